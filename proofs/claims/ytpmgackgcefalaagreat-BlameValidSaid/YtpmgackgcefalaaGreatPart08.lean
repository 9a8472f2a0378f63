/-
  The walks of the document's answer for layer 18: a header's bytes.
  The walk of the document's answer for layer 18: a header out of bytes.
  The walks of the document's answer for layer 26: numbers, and a packet's fields as far as they go.
  The walk of the document's body of data.
  The walk of the document's answer for layer 22: a set out of bytes; it ends, and answers some list and some number.
-/
import Derived.Test.YtpmgackgcefalaaGreatPart07
import Derived.BigRegion
import Derived.Test.YtpmgackgcefalaaGreatPart06
set_option linter.unusedSimpArgs false
set_option linter.unusedVariables false
set_option linter.unusedSectionVars false
set_option linter.unnecessarySimpa false
set_option linter.defProp false
namespace Go.Proofs.YtpmgackgcefalaaGreat
open Go.RowKit
theorem rfixed_i (n k : Int) (h0 : 0 ≤ n) (hn : n < 4611686018427387904) (hk1 : 0 ≤ k) (hk : k ≤ 8) (w : World) :
    Calls Tryz.prog 59 #[.int .i64 n, .int .i64 k] w fun e w' => e = .returned (.string (str (Sha.fixed n k.toNat))) ∧ Below w.heap.size w w' := by
  obtain ⟨k, rfl⟩ := Int.eq_ofNat_of_zero_le hk1
  obtain ⟨n, rfl⟩ := Int.eq_ofNat_of_zero_le h0
  rw [Int.toNat_natCast]
  exact rfixed_any n k (by omega) (by omega) w
end Go.Proofs.YtpmgackgcefalaaGreat
namespace Go.Proofs.YtpmgackgcefalaaGreat
open Go.RowKit
def rhtakeV (s : ByteArray) : Value := .tuple #[.agg (htakeHead s), .int .i64 (htakeErr s)]
theorem htake_bad {s : ByteArray} (h : ¬ (s.size = 98 ∧ s.extract 0 4 = ⟨#[83, 76, 71, 49]⟩ ∧ (headOf s).check ≠ 1)) : rhtakeV s = .tuple #[.agg zeroH, .int .i64 2] := by
  unfold rhtakeV htakeHead htakeErr
  rw [if_neg h, if_neg h]
set_option maxRecDepth 100000 in
set_option maxHeartbeats 2000000 in
theorem rhtake_out (s : ByteArray) (h : ¬ (s.size = 98 ∧ s.extract 0 4 = ⟨#[83, 76, 71, 49]⟩)) (w : World) :
    Calls Tryz.prog 38 #[.string s] w fun e w' => e = .returned (rhtakeV s) ∧ Below w.heap.size w w' := by
  rw [htake_bad (fun x => h ⟨x.1, x.2.1⟩)]
  by_cases hs : (s.size : Int) = 98
  case neg =>
    have hs' : ((s.size : Int) == 98) = false := by simp [hs]
    go_enter Tryz.func38, Tryz.ntmps38
    go_wp2_with fail
    refine bodyPost_ret (v := .tuple #[.agg zeroH, .int .i64 2]) ?r ?d ?fin
    case fin => exact ⟨rfl, (Below.refl _ _).alloc (Nat.le_refl _) _⟩
    case d => rfl
    case r => exact results_cell_val Tryz.results38 _ _ w.heap.size _ _ (0, 0) _ _ (by simp) (by simp) (heap_alloc_new _ _) Tryz.underlying30 rfl (by kernel_rfl)
  have hml : ((s.extract 0 4).toList == [83, 76, 71, 49]) = false := by
    rw [beq_eq_false_iff_ne]
    intro e
    refine h ⟨by omega, ByteArray.ext (Array.ext' ?_)⟩
    rw [← ByteArray.toList_eq, e]
  have hs4 : (4 : Int) ≤ s.size := by omega
  clear h
  go_enter Tryz.func38, Tryz.ntmps38
  go_wp2_with fail
  refine bodyPost_ret (v := .tuple #[.agg zeroH, .int .i64 2]) ?r ?d ?fin
  case fin => exact ⟨rfl, (Below.refl _ _).alloc (Nat.le_refl _) _⟩
  case d => rfl
  case r => exact results_cell_val Tryz.results38 _ _ w.heap.size _ _ (0, 0) _ _ (by simp) (by simp) (heap_alloc_new _ _) Tryz.underlying30 rfl (by kernel_rfl)
theorem rtake_at (s : ByteArray) (hs : s.size = 98) (a k : Nat) (hk1 : 1 ≤ k) (hk : k ≤ 6) (ha : a + k ≤ 98) (w : World) :
    Calls Tryz.prog 70 #[.string (s.extract a 98), .int .i64 k] w fun e w' => e = .returned (.tuple #[.int .i64 (numAt s a k : Nat), .string (s.extract (a + k) 98), .int .i64 0]) ∧ Below w.heap.size w w' := by
  have := rtake_any (s.extract a 98) k hk1 hk (by rw [cut_size s hs]; omega) w
  rw [cut_cut s hs a k ha] at this
  exact this
theorem rhtake_val (s : ByteArray) (hs : s.size = 98) (hm : s.extract 0 4 = ⟨#[83, 76, 71, 49]⟩) : rhtakeV s = if (headOf s).may = true then .tuple #[.agg #[.int .i64 (numAt s 4 4 : Nat), .string (s.extract 8 24), .int .i64 (numAt s 24 2 : Nat), .int .i64 (numAt s 26 4 : Nat), .int .i64 (numAt s 30 4 : Nat), .string (s.extract 34 66), .string (s.extract 66 98)], .int .i64 0] else .tuple #[.agg zeroH, .int .i64 2] := by
  unfold Header.may
  rcases (headOf s).check_cases with h | ⟨h, -⟩
  · rw [htake_bad (fun x => x.2.2 h), if_neg (by rw [h]; decide)]
  · rw [if_pos (by rw [h]; rfl)]
    unfold rhtakeV htakeHead htakeErr
    have hc : s.size = 98 ∧ s.extract 0 4 = ⟨#[83, 76, 71, 49]⟩ ∧ (headOf s).check ≠ 1 := ⟨hs, hm, by rw [h]; decide⟩
    rw [if_pos hc, if_pos hc]
    rfl
set_option maxRecDepth 100000 in
set_option maxHeartbeats 4000000 in
theorem rhtake_in (s : ByteArray) (hs : s.size = 98) (hm : s.extract 0 4 = ⟨#[83, 76, 71, 49]⟩) (w : World) :
    Calls Tryz.prog 38 #[.string s] w fun e w' => e = .returned (rhtakeV s) ∧ Below w.heap.size w w' := by
  have hs' : (s.size : Int) = 98 := by omega
  obtain ⟨V, hV⟩ : ∃ V, V = rhtakeV s := ⟨_, rfl⟩
  rw [← hV]
  rw [rhtake_val s hs hm] at hV
  have T1 := fun W => rtake_at s hs 4 4 (by decide) (by decide) (by decide) W
  have T2 := fun W => rtake_at s hs 24 2 (by decide) (by decide) (by decide) W
  have T3 := fun W => rtake_at s hs 26 4 (by decide) (by decide) (by decide) W
  have T4 := fun W => rtake_at s hs 30 4 (by decide) (by decide) (by decide) W
  simp only [Nat.reduceAdd] at T1 T2 T3 T4
  have e8 : (s.extract 8 98).extract 0 16 = s.extract 8 24 := cut_head s hs 8 16 (by decide)
  have e24 : (s.extract 8 98).extract 16 (s.extract 8 98).size = s.extract 24 98 := cut_cut s hs 8 16 (by decide)
  have e34 : (s.extract 34 98).extract 0 32 = s.extract 34 66 := cut_head s hs 34 32 (by decide)
  have e66 : (s.extract 34 98).extract 32 (s.extract 34 98).size = s.extract 66 98 := cut_cut s hs 34 32 (by decide)
  have z8 : (s.extract 8 98).size = 90 := cut_size s hs 8
  have z34 : (s.extract 34 98).size = 64 := cut_size s hs 34
  rw [z8] at e24
  rw [z34] at e66
  have hO := Lib.hid (OfAt.start w)
  have HM : ∀ W, Calls Tryz.prog 50 #[.agg #[.int .i64 (numAt s 4 4 : Nat), .string (s.extract 8 24), .int .i64 (numAt s 24 2 : Nat), .int .i64 (numAt s 26 4 : Nat), .int .i64 (numAt s 30 4 : Nat), .string (s.extract 34 66), .string (s.extract 66 98)]] W fun e w' => e = .returned (.bool (headOf s).may) ∧ Below W.heap.size W w' := fun W => may_any (headOf s) W
  generalize (headOf s).may = M at *
  generalize numAt s 4 4 = n1 at *
  generalize numAt s 24 2 = n2 at *
  generalize numAt s 26 4 = n3 at *
  generalize numAt s 30 4 = n4 at *
  generalize s.extract 8 24 = salt at *
  generalize s.extract 34 66 = root at *
  generalize s.extract 66 98 = tag at *
  generalize s.extract 8 98 = t8 at *
  generalize s.extract 24 98 = t24 at *
  generalize s.extract 26 98 = t26 at *
  generalize s.extract 30 98 = t30 at *
  generalize s.extract 34 98 = t34 at *
  have T1 := Lib.hid T1
  have T2 := Lib.hid T2
  have T3 := Lib.hid T3
  have T4 := Lib.hid T4
  have HM := Lib.hid HM
  have HV := Lib.hid hV
  clear hV
  simp only [zeroH] at hO
  go_enter Tryz.func38, Tryz.ntmps38
  go_wp2_with fail
  refine (T1.out _).mono ?_
  rintro e w1 ⟨rfl, hb⟩
  have O1 := Lib.hid (hO.out.after hb)
  clear hb T1 hO
  go_wp2_with fail
  refine (T2.out _).mono ?_
  rintro e w2 ⟨rfl, hb⟩
  have O2 := Lib.hid (O1.out.after hb)
  clear hb T2 O1 e8 e24 z8
  go_wp2_with fail
  refine (T3.out _).mono ?_
  rintro e w3 ⟨rfl, hb⟩
  have O3 := Lib.hid (O2.out.after hb)
  clear hb T3 O2
  go_wp2_with fail
  refine (T4.out _).mono ?_
  rintro e w4 ⟨rfl, hb⟩
  have O4 := Lib.hid (O3.out.after hb)
  clear hb T4 O3
  go_wp2_with fail
  have l32 : (32 : Int) ≤ t34.size := by omega
  go_region
  clear e34 e66 z34
  have O6 := Lib.hid ((O4.out.alloc (.cells #[.int .i64 n1, .string salt, .int .i64 n2, .int .i64 n3, .int .i64 n4, .string root, .string tag] 30 (0, 0))).after ((Same.drew _).below _))
  have hA := Lib.hid ((Same.drew _).at (heap_alloc_new w4 (.cells #[.int .i64 n1, .string salt, .int .i64 n2, .int .i64 n3, .int .i64 n4, .string root, .string tag] 30 (0, 0))))
  have hl5 := O4.out.below.size
  clear O4 l32
  generalize (w4.alloc (.cells #[.int .i64 n1, .string salt, .int .i64 n2, .int .i64 n3, .int .i64 n4, .string root, .string tag] 30 (0, 0))).drew = W6 at *
  generalize w4.heap.size = g at *
  have hA6 := hA.out
  have y0 := cell_of hA6 0
  have y1 := cell_of hA6 1
  have y2 := cell_of hA6 2
  have y3 := cell_of hA6 3
  have y4 := cell_of hA6 4
  have y5 := cell_of hA6 5
  have y6 := cell_of hA6 6
  simp at y0 y1 y2 y3 y4 y5 y6
  clear hA6
  go_wp2_with fail
  refine (HM.out _).mono ?_
  rintro e w7 ⟨rfl, hb⟩
  have O7 := Lib.hid (O6.out.after hb)
  have hA7 := heap_below hA.out hb
  clear y0 y1 y2 y3 y4 y5 y6
  have y0 := cell_of hA7 0
  have y1 := cell_of hA7 1
  have y2 := cell_of hA7 2
  have y3 := cell_of hA7 3
  have y4 := cell_of hA7 4
  have y5 := cell_of hA7 5
  have y6 := cell_of hA7 6
  simp at y0 y1 y2 y3 y4 y5 y6
  have hz0 := O7.out.z
  have x0 := cell_of hz0 0
  have x1 := cell_of hz0 1
  have x2 := cell_of hz0 2
  have x3 := cell_of hz0 3
  have x4 := cell_of hz0 4
  have x5 := cell_of hz0 5
  have x6 := cell_of hz0 6
  have g0 := frozen_of hz0 0
  have g1 := frozen_of hz0 1
  have g2 := frozen_of hz0 2
  have g3 := frozen_of hz0 3
  have g4 := frozen_of hz0 4
  have g5 := frozen_of hz0 5
  have g6 := frozen_of hz0 6
  simp [zeroH] at x0 x1 x2 x3 x4 x5 x6
  clear hz0 hb hA hA7 O6 HM
  have hV := HV.out
  clear HV
  cases M
  · rw [if_neg (by decide)] at hV
    have HV := Lib.hid hV
    clear hV
    go_wp2_with fail
    have R := row7 (Nat.le_refl _) O7.out.below O7.out.z rfl (.int .i64 0) (.string ⟨#[]⟩) (.int .i64 0) (.int .i64 0) (.int .i64 0) (.string ⟨#[]⟩) (.string ⟨#[]⟩)
    refine bodyPost_ret (v := .tuple #[.agg zeroH, .int .i64 2]) ?r ?d ?fin
    case fin => exact ⟨by rw [HV.out], R.1⟩
    case d => rfl
    case r => exact results_cell_val Tryz.results38 _ _ w.heap.size _ _ (0, 0) _ _ (by simp) (by simp) R.2 Tryz.underlying30 rfl (by kernel_rfl)
  · rw [if_pos rfl] at hV
    have HV := Lib.hid hV
    clear hV
    go_wp2_with fail
    have R := row7 (Nat.le_refl _) O7.out.below O7.out.z rfl (.int .i64 n1) (.string salt) (.int .i64 n2) (.int .i64 n3) (.int .i64 n4) (.string root) (.string tag)
    refine bodyPost_ret (v := .tuple #[.agg #[.int .i64 n1, .string salt, .int .i64 n2, .int .i64 n3, .int .i64 n4, .string root, .string tag], .int .i64 0]) ?r ?d ?fin
    case fin => exact ⟨by rw [HV.out], R.1⟩
    case d => rfl
    case r => exact results_cell_val Tryz.results38 _ _ w.heap.size _ _ (0, 0) _ _ (by simp) (by simp) R.2 Tryz.underlying30 rfl (by kernel_rfl)
theorem rhtake_any (s : ByteArray) (w : World) :
    Calls Tryz.prog 38 #[.string s] w fun e w' => e = .returned (rhtakeV s) ∧ Below w.heap.size w w' := by
  by_cases h : s.size = 98 ∧ s.extract 0 4 = ⟨#[83, 76, 71, 49]⟩
  · exact rhtake_in s h.1 h.2 w
  · exact rhtake_out s h w
end Go.Proofs.YtpmgackgcefalaaGreat
namespace Go.Proofs.YtpmgackgcefalaaGreat
open Go.RowKit
set_option maxRecDepth 100000 in
theorem rnumb_any (s : ByteArray) (hs : s.size ≤ 6) (w : World) :
    Calls Tryz.prog 69 #[.string s] w fun e w' => e = .returned (.int .i64 (Sha.num s.data.toList : Nat)) ∧ w' = w := by
  go_enter Tryz.func69, Tryz.ntmps69
  go_wp2_with fail
  go_loopw [3, 4] (fun v i wr => ∃ t : Nat, t ≤ s.size ∧ i = .int .i64 t ∧ v = .int .i64 (Sha.num (s.data.toList.take t) : Nat) ∧ wr = w) (fun _ i _ => s.size - (intOf i).toNat)
  case atStart => exact ⟨0, Nat.zero_le _, rfl, rfl, rfl⟩
  case round =>
    obtain ⟨t, ht, rfl, rfl, rfl⟩ := hrel
    by_cases hlt : t < s.size
    · have hlt' : (t : Int) < s.size := by omega
      have hN' : Sha.num (s.data.toList.take t) < 1099511627776 := by
        refine Nat.lt_of_lt_of_le (Sha.num_lt _) ?_
        have : (s.data.toList.take t).length ≤ 5 := by simp; omega
        exact Nat.le_trans (Nat.pow_le_pow_right (by decide) this) (by decide)
      have hnum : Hid (Sha.num (s.data.toList.take (t + 1)) = 256 * Sha.num (s.data.toList.take t) + s[t].toNat) := by
        have ht' : t < s.data.toList.length := by rw [Array.length_toList]; exact hlt
        rw [List.take_succ_eq_append_getElem ht', Sha.num_snoc, Nat.mul_comm]
        exact rfl
      have hB := s[t].toNat_lt
      generalize Sha.num (s.data.toList.take t) = N at *
      have hB' : (s[t].toNat : Int) < 256 := by omega
      have hB0 : (0 : Int) ≤ s[t].toNat := by omega
      go_wp2_with fail
      go_roundw
      case rel => exact ⟨t + 1, by omega, by go_num, by rw [hnum.out]; simp, by simp⟩
      case measure => simp [intOf]; omega
    · have et : t = s.size := by omega
      subst et
      rw [show s.data.toList.take s.size = s.data.toList from List.take_of_length_le (by rw [Array.length_toList]; exact Nat.le_refl _)]
      go_wp2_with fail
      go_ret
      exact ⟨rfl, rfl⟩
theorem rword_any (n least : Int) (w : World) :
    Calls Tryz.prog 87 #[.int .i64 n, .int .i64 least] w fun e w' => e = .returned (.bool (numOk n least)) ∧ w' = w := by
  by_cases h1 : least ≤ n
  · by_cases h2 : n ≤ 4294967295
    · have e : numOk n least = true := decide_eq_true ⟨h1, h2⟩
      rw [e]
      go_enter Tryz.func87, Tryz.ntmps87
      go_wp2_with fail
      go_ret
      exact ⟨rfl, rfl⟩
    · have e : numOk n least = false := decide_eq_false (fun h => h2 h.2)
      rw [e]
      go_enter Tryz.func87, Tryz.ntmps87
      go_wp2_with fail
      go_ret
      exact ⟨rfl, rfl⟩
  · have e : numOk n least = false := decide_eq_false (fun h => h1 h.1)
    rw [e]
    go_enter Tryz.func87, Tryz.ntmps87
    go_wp2_with fail
    go_ret
    exact ⟨rfl, rfl⟩
def BodyOf (kind frm : Nat) (s : ByteArray) (B : Nat) (W : World) (C : Array Value) : Prop :=
  (kind = 1 ∧ C = pkC 1 frm 0 0 0 0 s (.slice none 0 0)) ∨
  (kind ≠ 1 ∧ ∃ (seq id i n : Nat) (text : ByteArray) (sl : Value) (ps : List ByteArray), C = pkC kind frm seq id i n text sl ∧ W.ownsRow B 9 1 sl ps.length (ps.map Value.string) ∧
    (seq < 4611686018427387904 ∧ id < 4611686018427387904 ∧ i < 4611686018427387904 ∧ n < 4611686018427387904) ∧ text.size ≤ s.size ∧ ps.length ≤ s.size ∧ ∀ x ∈ ps, x.size ≤ 32)
structure BdAt (w W : World) (C : Array Value) : Prop where
  below : Below w.heap.size w W
  z : W.heap[w.heap.size]? = some (.cells zeroP 66 (0, 0))
  p : W.heap[w.heap.size + 1]? = some (.cells C 66 (0, 0))
theorem BdAt.start (w : World) (C : Array Value) : BdAt w ((w.alloc (.cells zeroP 66 (0, 0))).alloc (.cells C 66 (0, 0))) C :=
  ⟨((Below.refl _ _).alloc (Nat.le_refl _) _).alloc (by simp) _, heap_alloc_old (heap_alloc_new _ _), heap_alloc_at (by simp) _⟩
theorem BdAt.after {w W w1 : World} {C : Array Value} (t : BdAt w W C) (hb : Below W.heap.size W w1) : BdAt w w1 C := ⟨t.below.trans (hb.mono t.below.size), heap_below t.z hb, heap_below t.p hb⟩
theorem BdAt.store {w W : World} {C : Array Value} (t : BdAt w W C) (k : Nat) (v : Value) : BdAt w (W.setCell ⟨w.heap.size + 1, k, none⟩ v) (C.setIfInBounds k v) :=
  ⟨t.below.setCell (by simp) _, by rw [heap_setCell_ne (by simp)]; exact t.z, heap_setCell t.p k v⟩
theorem row8 {w W : World} {g : Nat} {C : Array Value} {T : TypeId} (hB : w.heap.size ≤ g) (hb : Below w.heap.size w W) (hz : W.heap[g]? = some (.cells C T (0, 0))) (hC : C.size = 8) (v0 v1 v2 v3 v4 v5 v6 v7 : Value) :
    Below w.heap.size w ((((((((W.setCell ⟨g, 0, none⟩ v0).setCell ⟨g, 1, none⟩ v1).setCell ⟨g, 2, none⟩ v2).setCell ⟨g, 3, none⟩ v3).setCell ⟨g, 4, none⟩ v4).setCell ⟨g, 5, none⟩ v5).setCell ⟨g, 6, none⟩ v6).setCell ⟨g, 7, none⟩ v7) ∧
    ((((((((W.setCell ⟨g, 0, none⟩ v0).setCell ⟨g, 1, none⟩ v1).setCell ⟨g, 2, none⟩ v2).setCell ⟨g, 3, none⟩ v3).setCell ⟨g, 4, none⟩ v4).setCell ⟨g, 5, none⟩ v5).setCell ⟨g, 6, none⟩ v6).setCell ⟨g, 7, none⟩ v7).heap[g]? = some (.cells #[v0, v1, v2, v3, v4, v5, v6, v7] T (0, 0)) := by
  have h1 := below_rowSet hB [v0, v1, v2, v3, v4, v5, v6, v7] 0 _ hb
  have h2 := heap_rowSet hz [v0, v1, v2, v3, v4, v5, v6, v7] (by simpa using hC)
  simp only [rowSet, Nat.zero_add, Nat.reduceAdd] at h1 h2
  exact ⟨h1, h2⟩
theorem results_cell1 {P : Program} {fn : Func} {p : Tmp} {ty : TypeId} (h : fn.results = #[.cell p ty]) (tmps : Array Value) (w : World) (g : Nat) (t : TypeId) (cs : Array Value) (fr : Nat × Nat) (d : TypeDesc)
    (hp : tmps.getD p undef = .pointer (some ⟨g, 0, none⟩)) (hg : w.heap[g]? = some (.cells cs t fr))
    (hu : P.underlying ty = some d) (hd : (match d with | .struct _ | .array _ _ => true | _ => false) = true) (hi : (P.info? ty).map (·.size) = some cs.size) :
    (results fn tmps).run P w = .ok (.agg cs) w := results_cell_row h tmps w g t cs fr d hp hg hu hd hi
theorem num_bound (s : ByteArray) (h : s.size ≤ 6) : Sha.num s.data.toList < 4611686018427387904 := by
  refine Nat.lt_of_lt_of_le (Sha.num_lt _) ?_
  have : s.data.toList.length ≤ 6 := by rw [Array.length_toList]; exact h
  exact Nat.le_trans (Nat.pow_le_pow_right (by decide) this) (by decide)
set_option maxRecDepth 100000 in
set_option maxHeartbeats 4000000 in
theorem body_one (frm : Nat) (s : ByteArray) (hsz : s.size ≤ 140737488355327) (w : World) :
    Calls Tryz.prog 68 #[.int .i64 1, .int .i64 frm, .string s] w fun e w' => (∃ C, e = .returned (.agg C) ∧ BodyOf 1 frm s w.heap.size w' C) ∧ Below w.heap.size w w' := by
  have HP := Lib.hid (BdAt.start w (pkC 1 frm 0 0 0 0 ⟨#[]⟩ (.slice none 0 0)))
  simp only [zeroP, pkC] at HP
  go_enter Tryz.func68, Tryz.ntmps68
  go_upto_region 2 with fail
  generalize (w.alloc (.cells #[.int .i64 0, .int .i64 0, .int .i64 0, .int .i64 0, .int .i64 0, .int .i64 0, .string ⟨#[]⟩, .slice none 0 0] 66 (0, 0))).alloc (.cells #[.int .i64 1, .int .i64 frm, .int .i64 0, .int .i64 0, .int .i64 0, .int .i64 0, .string ⟨#[]⟩, .slice none 0 0] 66 (0, 0)) = W at *
  have HP : Hid (BdAt w W (pkC 1 frm 0 0 0 0 ⟨#[]⟩ (.slice none 0 0))) := HP
  have hp0 := HP.out.p
  have hz0 := HP.out.z
  have y0 := cell_of hp0 0
  have y1 := cell_of hp0 1
  have y2 := cell_of hp0 2
  have y3 := cell_of hp0 3
  have y4 := cell_of hp0 4
  have y5 := cell_of hp0 5
  have y6 := cell_of hp0 6
  have y7 := cell_of hp0 7
  have f0 := frozen_of hp0 0
  have f1 := frozen_of hp0 1
  have f2 := frozen_of hp0 2
  have f3 := frozen_of hp0 3
  have f4 := frozen_of hp0 4
  have f5 := frozen_of hp0 5
  have f6 := frozen_of hp0 6
  have f7 := frozen_of hp0 7
  have z0 := cell_of hz0 0
  have z1 := cell_of hz0 1
  have z2 := cell_of hz0 2
  have z3 := cell_of hz0 3
  have z4 := cell_of hz0 4
  have z5 := cell_of hz0 5
  have z6 := cell_of hz0 6
  have z7 := cell_of hz0 7
  have g0 := frozen_of hz0 0
  have g1 := frozen_of hz0 1
  have g2 := frozen_of hz0 2
  have g3 := frozen_of hz0 3
  have g4 := frozen_of hz0 4
  have g5 := frozen_of hz0 5
  have g6 := frozen_of hz0 6
  have g7 := frozen_of hz0 7
  simp [pkC, zeroP] at y0 y1 y2 y3 y4 y5 y6 y7 z0 z1 z2 z3 z4 z5 z6 z7
  clear hp0 hz0
  go_wp2_with fail
  have hq := (HP.out.store 6 (.string s))
  have R := row8 (Nat.le_refl _) hq.below hq.z rfl (.int .i64 1) (.int .i64 frm) (.int .i64 0) (.int .i64 0) (.int .i64 0) (.int .i64 0) (.string s) (.slice none 0 0)
  refine bodyPost_ret (v := .agg (pkC 1 frm 0 0 0 0 s (.slice none 0 0))) ?r ?d ?fin
  case fin => exact ⟨⟨_, rfl, .inl ⟨rfl, rfl⟩⟩, R.1⟩
  case d => rfl
  case r => exact results_cell1 Tryz.results68 _ _ w.heap.size _ _ (0, 0) _ (by simp) R.2 Tryz.underlying66 rfl (by kernel_rfl)
set_option maxRecDepth 100000 in
set_option maxHeartbeats 4000000 in
theorem body_none (kind : Nat) (frm : Nat) (s : ByteArray) (h1 : kind ≠ 1) (h2 : kind ≠ 2) (h3 : kind ≠ 3) (h4 : kind ≠ 4) (hsz : s.size ≤ 140737488355327) (w : World) :
    Calls Tryz.prog 68 #[.int .i64 kind, .int .i64 frm, .string s] w fun e w' => (∃ C, e = .returned (.agg C) ∧ BodyOf kind frm s w.heap.size w' C) ∧ Below w.heap.size w w' := by
  have k1 : ¬ (kind : Int) = 1 := by omega
  have k2 : ¬ (kind : Int) = 2 := by omega
  have k3 : ¬ (kind : Int) = 3 := by omega
  have k4 : ¬ (kind : Int) = 4 := by omega
  have b1 : ((kind : Int) == 1) = false := by simp [k1]
  have b2 : ((kind : Int) == 2) = false := by simp [k2]
  have b3 : ((kind : Int) == 3) = false := by simp [k3]
  have b4 : ((kind : Int) == 4) = false := by simp [k4]
  have HP := Lib.hid (BdAt.start w (pkC kind frm 0 0 0 0 ⟨#[]⟩ (.slice none 0 0)))
  simp only [zeroP, pkC] at HP
  go_enter Tryz.func68, Tryz.ntmps68
  go_upto_region 2 with fail
  generalize (w.alloc (.cells #[.int .i64 0, .int .i64 0, .int .i64 0, .int .i64 0, .int .i64 0, .int .i64 0, .string ⟨#[]⟩, .slice none 0 0] 66 (0, 0))).alloc (.cells #[.int .i64 kind, .int .i64 frm, .int .i64 0, .int .i64 0, .int .i64 0, .int .i64 0, .string ⟨#[]⟩, .slice none 0 0] 66 (0, 0)) = W at *
  have HP : Hid (BdAt w W (pkC kind frm 0 0 0 0 ⟨#[]⟩ (.slice none 0 0))) := HP
  have hp0 := HP.out.p
  have hz0 := HP.out.z
  have y0 := cell_of hp0 0
  have y1 := cell_of hp0 1
  have y2 := cell_of hp0 2
  have y3 := cell_of hp0 3
  have y4 := cell_of hp0 4
  have y5 := cell_of hp0 5
  have y6 := cell_of hp0 6
  have y7 := cell_of hp0 7
  have f0 := frozen_of hp0 0
  have f1 := frozen_of hp0 1
  have f2 := frozen_of hp0 2
  have f3 := frozen_of hp0 3
  have f4 := frozen_of hp0 4
  have f5 := frozen_of hp0 5
  have f6 := frozen_of hp0 6
  have f7 := frozen_of hp0 7
  have z0 := cell_of hz0 0
  have z1 := cell_of hz0 1
  have z2 := cell_of hz0 2
  have z3 := cell_of hz0 3
  have z4 := cell_of hz0 4
  have z5 := cell_of hz0 5
  have z6 := cell_of hz0 6
  have z7 := cell_of hz0 7
  have g0 := frozen_of hz0 0
  have g1 := frozen_of hz0 1
  have g2 := frozen_of hz0 2
  have g3 := frozen_of hz0 3
  have g4 := frozen_of hz0 4
  have g5 := frozen_of hz0 5
  have g6 := frozen_of hz0 6
  have g7 := frozen_of hz0 7
  simp [pkC, zeroP] at y0 y1 y2 y3 y4 y5 y6 y7 z0 z1 z2 z3 z4 z5 z6 z7
  clear hp0 hz0
  go_wp2_with fail
  have hq := HP.out
  have R := row8 (Nat.le_refl _) hq.below hq.z rfl (.int .i64 kind) (.int .i64 frm) (.int .i64 0) (.int .i64 0) (.int .i64 0) (.int .i64 0) (.string ⟨#[]⟩) (.slice none 0 0)
  refine bodyPost_ret (v := .agg (pkC kind frm 0 0 0 0 ⟨#[]⟩ (.slice none 0 0))) ?r ?d ?fin
  case fin => exact ⟨⟨_, rfl, .inr ⟨h1, 0, 0, 0, 0, _, _, [], rfl, World.ownsRow_nil _ _ _ _, ⟨by decide, by decide, by decide, by decide⟩, Nat.zero_le _, Nat.zero_le _, by simp⟩⟩, R.1⟩
  case d => rfl
  case r => exact results_cell1 Tryz.results68 _ _ w.heap.size _ _ (0, 0) _ (by simp) R.2 Tryz.underlying66 rfl (by kernel_rfl)
set_option maxRecDepth 100000 in
set_option maxHeartbeats 4000000 in
theorem body_short2 (frm : Nat) (s : ByteArray) (hl : s.size < 231) (hsz : s.size ≤ 140737488355327) (w : World) :
    Calls Tryz.prog 68 #[.int .i64 2, .int .i64 frm, .string s] w fun e w' => (∃ C, e = .returned (.agg C) ∧ BodyOf 2 frm s w.heap.size w' C) ∧ Below w.heap.size w w' := by
  have hl' : (s.size : Int) < 231 := by omega
  have HP := Lib.hid (BdAt.start w (pkC 2 frm 0 0 0 0 ⟨#[]⟩ (.slice none 0 0)))
  simp only [zeroP, pkC] at HP
  go_enter Tryz.func68, Tryz.ntmps68
  go_upto_region 2 with fail
  generalize (w.alloc (.cells #[.int .i64 0, .int .i64 0, .int .i64 0, .int .i64 0, .int .i64 0, .int .i64 0, .string ⟨#[]⟩, .slice none 0 0] 66 (0, 0))).alloc (.cells #[.int .i64 2, .int .i64 frm, .int .i64 0, .int .i64 0, .int .i64 0, .int .i64 0, .string ⟨#[]⟩, .slice none 0 0] 66 (0, 0)) = W at *
  have HP : Hid (BdAt w W (pkC 2 frm 0 0 0 0 ⟨#[]⟩ (.slice none 0 0))) := HP
  have hp0 := HP.out.p
  have hz0 := HP.out.z
  have y0 := cell_of hp0 0
  have y1 := cell_of hp0 1
  have y2 := cell_of hp0 2
  have y3 := cell_of hp0 3
  have y4 := cell_of hp0 4
  have y5 := cell_of hp0 5
  have y6 := cell_of hp0 6
  have y7 := cell_of hp0 7
  have f0 := frozen_of hp0 0
  have f1 := frozen_of hp0 1
  have f2 := frozen_of hp0 2
  have f3 := frozen_of hp0 3
  have f4 := frozen_of hp0 4
  have f5 := frozen_of hp0 5
  have f6 := frozen_of hp0 6
  have f7 := frozen_of hp0 7
  have z0 := cell_of hz0 0
  have z1 := cell_of hz0 1
  have z2 := cell_of hz0 2
  have z3 := cell_of hz0 3
  have z4 := cell_of hz0 4
  have z5 := cell_of hz0 5
  have z6 := cell_of hz0 6
  have z7 := cell_of hz0 7
  have g0 := frozen_of hz0 0
  have g1 := frozen_of hz0 1
  have g2 := frozen_of hz0 2
  have g3 := frozen_of hz0 3
  have g4 := frozen_of hz0 4
  have g5 := frozen_of hz0 5
  have g6 := frozen_of hz0 6
  have g7 := frozen_of hz0 7
  simp [pkC, zeroP] at y0 y1 y2 y3 y4 y5 y6 y7 z0 z1 z2 z3 z4 z5 z6 z7
  clear hp0 hz0
  go_wp2_with fail
  have hq := HP.out
  have R := row8 (Nat.le_refl _) hq.below hq.z rfl (.int .i64 2) (.int .i64 frm) (.int .i64 0) (.int .i64 0) (.int .i64 0) (.int .i64 0) (.string ⟨#[]⟩) (.slice none 0 0)
  refine bodyPost_ret (v := .agg (pkC 2 frm 0 0 0 0 ⟨#[]⟩ (.slice none 0 0))) ?r ?d ?fin
  case fin => exact ⟨⟨_, rfl, .inr ⟨by decide, 0, 0, 0, 0, _, _, [], rfl, World.ownsRow_nil _ _ _ _, ⟨by decide, by decide, by decide, by decide⟩, Nat.zero_le _, Nat.zero_le _, by simp⟩⟩, R.1⟩
  case d => rfl
  case r => exact results_cell1 Tryz.results68 _ _ w.heap.size _ _ (0, 0) _ (by simp) R.2 Tryz.underlying66 rfl (by kernel_rfl)
set_option maxRecDepth 100000 in
set_option maxHeartbeats 4000000 in
theorem body_short3 (frm : Nat) (s : ByteArray) (hl : s.size < 12) (hsz : s.size ≤ 140737488355327) (w : World) :
    Calls Tryz.prog 68 #[.int .i64 3, .int .i64 frm, .string s] w fun e w' => (∃ C, e = .returned (.agg C) ∧ BodyOf 3 frm s w.heap.size w' C) ∧ Below w.heap.size w w' := by
  have hl' : (s.size : Int) < 12 := by omega
  have HP := Lib.hid (BdAt.start w (pkC 3 frm 0 0 0 0 ⟨#[]⟩ (.slice none 0 0)))
  simp only [zeroP, pkC] at HP
  go_enter Tryz.func68, Tryz.ntmps68
  go_upto_region 2 with fail
  generalize (w.alloc (.cells #[.int .i64 0, .int .i64 0, .int .i64 0, .int .i64 0, .int .i64 0, .int .i64 0, .string ⟨#[]⟩, .slice none 0 0] 66 (0, 0))).alloc (.cells #[.int .i64 3, .int .i64 frm, .int .i64 0, .int .i64 0, .int .i64 0, .int .i64 0, .string ⟨#[]⟩, .slice none 0 0] 66 (0, 0)) = W at *
  have HP : Hid (BdAt w W (pkC 3 frm 0 0 0 0 ⟨#[]⟩ (.slice none 0 0))) := HP
  have hp0 := HP.out.p
  have hz0 := HP.out.z
  have y0 := cell_of hp0 0
  have y1 := cell_of hp0 1
  have y2 := cell_of hp0 2
  have y3 := cell_of hp0 3
  have y4 := cell_of hp0 4
  have y5 := cell_of hp0 5
  have y6 := cell_of hp0 6
  have y7 := cell_of hp0 7
  have f0 := frozen_of hp0 0
  have f1 := frozen_of hp0 1
  have f2 := frozen_of hp0 2
  have f3 := frozen_of hp0 3
  have f4 := frozen_of hp0 4
  have f5 := frozen_of hp0 5
  have f6 := frozen_of hp0 6
  have f7 := frozen_of hp0 7
  have z0 := cell_of hz0 0
  have z1 := cell_of hz0 1
  have z2 := cell_of hz0 2
  have z3 := cell_of hz0 3
  have z4 := cell_of hz0 4
  have z5 := cell_of hz0 5
  have z6 := cell_of hz0 6
  have z7 := cell_of hz0 7
  have g0 := frozen_of hz0 0
  have g1 := frozen_of hz0 1
  have g2 := frozen_of hz0 2
  have g3 := frozen_of hz0 3
  have g4 := frozen_of hz0 4
  have g5 := frozen_of hz0 5
  have g6 := frozen_of hz0 6
  have g7 := frozen_of hz0 7
  simp [pkC, zeroP] at y0 y1 y2 y3 y4 y5 y6 y7 z0 z1 z2 z3 z4 z5 z6 z7
  clear hp0 hz0
  go_wp2_with fail
  have hq := HP.out
  have R := row8 (Nat.le_refl _) hq.below hq.z rfl (.int .i64 3) (.int .i64 frm) (.int .i64 0) (.int .i64 0) (.int .i64 0) (.int .i64 0) (.string ⟨#[]⟩) (.slice none 0 0)
  refine bodyPost_ret (v := .agg (pkC 3 frm 0 0 0 0 ⟨#[]⟩ (.slice none 0 0))) ?r ?d ?fin
  case fin => exact ⟨⟨_, rfl, .inr ⟨by decide, 0, 0, 0, 0, _, _, [], rfl, World.ownsRow_nil _ _ _ _, ⟨by decide, by decide, by decide, by decide⟩, Nat.zero_le _, Nat.zero_le _, by simp⟩⟩, R.1⟩
  case d => rfl
  case r => exact results_cell1 Tryz.results68 _ _ w.heap.size _ _ (0, 0) _ (by simp) R.2 Tryz.underlying66 rfl (by kernel_rfl)
set_option maxRecDepth 100000 in
set_option maxHeartbeats 4000000 in
theorem body_short4 (frm : Nat) (s : ByteArray) (hl : s.size < 8) (hsz : s.size ≤ 140737488355327) (w : World) :
    Calls Tryz.prog 68 #[.int .i64 4, .int .i64 frm, .string s] w fun e w' => (∃ C, e = .returned (.agg C) ∧ BodyOf 4 frm s w.heap.size w' C) ∧ Below w.heap.size w w' := by
  have hl' : (s.size : Int) < 8 := by omega
  have HP := Lib.hid (BdAt.start w (pkC 4 frm 0 0 0 0 ⟨#[]⟩ (.slice none 0 0)))
  simp only [zeroP, pkC] at HP
  go_enter Tryz.func68, Tryz.ntmps68
  go_upto_region 2 with fail
  generalize (w.alloc (.cells #[.int .i64 0, .int .i64 0, .int .i64 0, .int .i64 0, .int .i64 0, .int .i64 0, .string ⟨#[]⟩, .slice none 0 0] 66 (0, 0))).alloc (.cells #[.int .i64 4, .int .i64 frm, .int .i64 0, .int .i64 0, .int .i64 0, .int .i64 0, .string ⟨#[]⟩, .slice none 0 0] 66 (0, 0)) = W at *
  have HP : Hid (BdAt w W (pkC 4 frm 0 0 0 0 ⟨#[]⟩ (.slice none 0 0))) := HP
  have hp0 := HP.out.p
  have hz0 := HP.out.z
  have y0 := cell_of hp0 0
  have y1 := cell_of hp0 1
  have y2 := cell_of hp0 2
  have y3 := cell_of hp0 3
  have y4 := cell_of hp0 4
  have y5 := cell_of hp0 5
  have y6 := cell_of hp0 6
  have y7 := cell_of hp0 7
  have f0 := frozen_of hp0 0
  have f1 := frozen_of hp0 1
  have f2 := frozen_of hp0 2
  have f3 := frozen_of hp0 3
  have f4 := frozen_of hp0 4
  have f5 := frozen_of hp0 5
  have f6 := frozen_of hp0 6
  have f7 := frozen_of hp0 7
  have z0 := cell_of hz0 0
  have z1 := cell_of hz0 1
  have z2 := cell_of hz0 2
  have z3 := cell_of hz0 3
  have z4 := cell_of hz0 4
  have z5 := cell_of hz0 5
  have z6 := cell_of hz0 6
  have z7 := cell_of hz0 7
  have g0 := frozen_of hz0 0
  have g1 := frozen_of hz0 1
  have g2 := frozen_of hz0 2
  have g3 := frozen_of hz0 3
  have g4 := frozen_of hz0 4
  have g5 := frozen_of hz0 5
  have g6 := frozen_of hz0 6
  have g7 := frozen_of hz0 7
  simp [pkC, zeroP] at y0 y1 y2 y3 y4 y5 y6 y7 z0 z1 z2 z3 z4 z5 z6 z7
  clear hp0 hz0
  go_wp2_with fail
  have hq := HP.out
  have R := row8 (Nat.le_refl _) hq.below hq.z rfl (.int .i64 4) (.int .i64 frm) (.int .i64 0) (.int .i64 0) (.int .i64 0) (.int .i64 0) (.string ⟨#[]⟩) (.slice none 0 0)
  refine bodyPost_ret (v := .agg (pkC 4 frm 0 0 0 0 ⟨#[]⟩ (.slice none 0 0))) ?r ?d ?fin
  case fin => exact ⟨⟨_, rfl, .inr ⟨by decide, 0, 0, 0, 0, _, _, [], rfl, World.ownsRow_nil _ _ _ _, ⟨by decide, by decide, by decide, by decide⟩, Nat.zero_le _, Nat.zero_le _, by simp⟩⟩, R.1⟩
  case d => rfl
  case r => exact results_cell1 Tryz.results68 _ _ w.heap.size _ _ (0, 0) _ (by simp) R.2 Tryz.underlying66 rfl (by kernel_rfl)
set_option maxRecDepth 100000 in
set_option maxHeartbeats 4000000 in
theorem body_long3 (frm : Nat) (s : ByteArray) (hl : 12 ≤ s.size) (hsz : s.size ≤ 140737488355327) (w : World) :
    Calls Tryz.prog 68 #[.int .i64 3, .int .i64 frm, .string s] w fun e w' => (∃ C, e = .returned (.agg C) ∧ BodyOf 3 frm s w.heap.size w' C) ∧ Below w.heap.size w w' := by
  have HP := Lib.hid (BdAt.start w (pkC 3 frm 0 0 0 0 ⟨#[]⟩ (.slice none 0 0)))
  simp only [zeroP, pkC] at HP
  have hl' : (12 : Int) ≤ s.size := by omega
  have hn0 := rnumb_any (s.extract 0 4) (by simp; omega)
  have hb0 := num_bound (s.extract 0 4) (by simp; omega)
  generalize hx0 : Sha.num (s.extract 0 4).data.toList = n0 at *
  clear hx0
  have hn1 := rnumb_any (s.extract 4 8) (by simp; omega)
  have hb1 := num_bound (s.extract 4 8) (by simp; omega)
  generalize hx1 : Sha.num (s.extract 4 8).data.toList = n1 at *
  clear hx1
  have hn2 := rnumb_any (s.extract 8 10) (by simp; omega)
  have hb2 := num_bound (s.extract 8 10) (by simp; omega)
  generalize hx2 : Sha.num (s.extract 8 10).data.toList = n2 at *
  clear hx2
  have hn3 := rnumb_any (s.extract 10 12) (by simp; omega)
  have hb3 := num_bound (s.extract 10 12) (by simp; omega)
  generalize hx3 : Sha.num (s.extract 10 12).data.toList = n3 at *
  clear hx3
  have lb0 : (4 : Int) ≤ s.size := by omega
  have la0 : (0 : Int) ≤ s.size := by omega
  have lb1 : (8 : Int) ≤ s.size := by omega
  have la1 : (4 : Int) ≤ s.size := by omega
  have lb2 : (10 : Int) ≤ s.size := by omega
  have la2 : (8 : Int) ≤ s.size := by omega
  have lb3 : (12 : Int) ≤ s.size := by omega
  have la3 : (10 : Int) ≤ s.size := by omega
  have HN0 := Lib.hid hn0
  clear hn0
  have HN1 := Lib.hid hn1
  clear hn1
  have HN2 := Lib.hid hn2
  clear hn2
  have HN3 := Lib.hid hn3
  clear hn3
  go_enter Tryz.func68, Tryz.ntmps68
  go_upto_region 2 with fail
  generalize (w.alloc (.cells #[.int .i64 0, .int .i64 0, .int .i64 0, .int .i64 0, .int .i64 0, .int .i64 0, .string ⟨#[]⟩, .slice none 0 0] 66 (0, 0))).alloc (.cells #[.int .i64 3, .int .i64 frm, .int .i64 0, .int .i64 0, .int .i64 0, .int .i64 0, .string ⟨#[]⟩, .slice none 0 0] 66 (0, 0)) = W at *
  have HP : Hid (BdAt w W (pkC 3 frm 0 0 0 0 ⟨#[]⟩ (.slice none 0 0))) := HP
  have hp0 := HP.out.p
  have hz0 := HP.out.z
  have y0 := cell_of hp0 0
  have y1 := cell_of hp0 1
  have y2 := cell_of hp0 2
  have y3 := cell_of hp0 3
  have y4 := cell_of hp0 4
  have y5 := cell_of hp0 5
  have y6 := cell_of hp0 6
  have y7 := cell_of hp0 7
  have f0 := frozen_of hp0 0
  have f1 := frozen_of hp0 1
  have f2 := frozen_of hp0 2
  have f3 := frozen_of hp0 3
  have f4 := frozen_of hp0 4
  have f5 := frozen_of hp0 5
  have f6 := frozen_of hp0 6
  have f7 := frozen_of hp0 7
  have z0 := cell_of hz0 0
  have z1 := cell_of hz0 1
  have z2 := cell_of hz0 2
  have z3 := cell_of hz0 3
  have z4 := cell_of hz0 4
  have z5 := cell_of hz0 5
  have z6 := cell_of hz0 6
  have z7 := cell_of hz0 7
  have g0 := frozen_of hz0 0
  have g1 := frozen_of hz0 1
  have g2 := frozen_of hz0 2
  have g3 := frozen_of hz0 3
  have g4 := frozen_of hz0 4
  have g5 := frozen_of hz0 5
  have g6 := frozen_of hz0 6
  have g7 := frozen_of hz0 7
  simp [pkC, zeroP] at y0 y1 y2 y3 y4 y5 y6 y7 z0 z1 z2 z3 z4 z5 z6 z7
  clear hp0 hz0
  go_wp2_with fail
  refine (HN0.out _).mono ?_
  rintro e w1 ⟨rfl, rfl⟩
  go_wp2_with fail
  refine (HN1.out _).mono ?_
  rintro e w1 ⟨rfl, rfl⟩
  go_wp2_with fail
  refine (HN2.out _).mono ?_
  rintro e w1 ⟨rfl, rfl⟩
  go_wp2_with fail
  refine (HN3.out _).mono ?_
  rintro e w1 ⟨rfl, rfl⟩
  go_wp2_with fail
  have hq := (((((HP.out.store 2 (.int .i64 n0)).store 3 (.int .i64 n1)).store 4 (.int .i64 n2)).store 5 (.int .i64 n3)).store 6 (.string (s.extract 12 s.size)))
  have R := row8 (Nat.le_refl _) hq.below hq.z rfl (.int .i64 3) (.int .i64 frm) (.int .i64 n0) (.int .i64 n1) (.int .i64 n2) (.int .i64 n3) (.string (s.extract 12 s.size)) (.slice none 0 0)
  refine bodyPost_ret (v := .agg (pkC 3 frm n0 n1 n2 n3 (s.extract 12 s.size) (.slice none 0 0))) ?r ?d ?fin
  case fin => exact ⟨⟨_, rfl, .inr ⟨by decide, n0, n1, n2, n3, _, _, [], rfl, World.ownsRow_nil _ _ _ _, ⟨hb0, hb1, hb2, hb3⟩, by simp, Nat.zero_le _, by simp⟩⟩, R.1⟩
  case d => rfl
  case r => exact results_cell1 Tryz.results68 _ _ w.heap.size _ _ (0, 0) _ (by simp) R.2 Tryz.underlying66 rfl (by kernel_rfl)
set_option maxRecDepth 100000 in
set_option maxHeartbeats 4000000 in
theorem body_long4 (frm : Nat) (s : ByteArray) (hl : 8 ≤ s.size) (hsz : s.size ≤ 140737488355327) (w : World) :
    Calls Tryz.prog 68 #[.int .i64 4, .int .i64 frm, .string s] w fun e w' => (∃ C, e = .returned (.agg C) ∧ BodyOf 4 frm s w.heap.size w' C) ∧ Below w.heap.size w w' := by
  have HP := Lib.hid (BdAt.start w (pkC 4 frm 0 0 0 0 ⟨#[]⟩ (.slice none 0 0)))
  simp only [zeroP, pkC] at HP
  have hl' : (8 : Int) ≤ s.size := by omega
  have hn0 := rnumb_any (s.extract 0 4) (by simp; omega)
  have hb0 := num_bound (s.extract 0 4) (by simp; omega)
  generalize hx0 : Sha.num (s.extract 0 4).data.toList = n0 at *
  clear hx0
  have hn1 := rnumb_any (s.extract 4 8) (by simp; omega)
  have hb1 := num_bound (s.extract 4 8) (by simp; omega)
  generalize hx1 : Sha.num (s.extract 4 8).data.toList = n1 at *
  clear hx1
  have lb0 : (4 : Int) ≤ s.size := by omega
  have la0 : (0 : Int) ≤ s.size := by omega
  have lb1 : (8 : Int) ≤ s.size := by omega
  have la1 : (4 : Int) ≤ s.size := by omega
  have HN0 := Lib.hid hn0
  clear hn0
  have HN1 := Lib.hid hn1
  clear hn1
  go_enter Tryz.func68, Tryz.ntmps68
  go_upto_region 2 with fail
  generalize (w.alloc (.cells #[.int .i64 0, .int .i64 0, .int .i64 0, .int .i64 0, .int .i64 0, .int .i64 0, .string ⟨#[]⟩, .slice none 0 0] 66 (0, 0))).alloc (.cells #[.int .i64 4, .int .i64 frm, .int .i64 0, .int .i64 0, .int .i64 0, .int .i64 0, .string ⟨#[]⟩, .slice none 0 0] 66 (0, 0)) = W at *
  have HP : Hid (BdAt w W (pkC 4 frm 0 0 0 0 ⟨#[]⟩ (.slice none 0 0))) := HP
  have hp0 := HP.out.p
  have hz0 := HP.out.z
  have y0 := cell_of hp0 0
  have y1 := cell_of hp0 1
  have y2 := cell_of hp0 2
  have y3 := cell_of hp0 3
  have y4 := cell_of hp0 4
  have y5 := cell_of hp0 5
  have y6 := cell_of hp0 6
  have y7 := cell_of hp0 7
  have f0 := frozen_of hp0 0
  have f1 := frozen_of hp0 1
  have f2 := frozen_of hp0 2
  have f3 := frozen_of hp0 3
  have f4 := frozen_of hp0 4
  have f5 := frozen_of hp0 5
  have f6 := frozen_of hp0 6
  have f7 := frozen_of hp0 7
  have z0 := cell_of hz0 0
  have z1 := cell_of hz0 1
  have z2 := cell_of hz0 2
  have z3 := cell_of hz0 3
  have z4 := cell_of hz0 4
  have z5 := cell_of hz0 5
  have z6 := cell_of hz0 6
  have z7 := cell_of hz0 7
  have g0 := frozen_of hz0 0
  have g1 := frozen_of hz0 1
  have g2 := frozen_of hz0 2
  have g3 := frozen_of hz0 3
  have g4 := frozen_of hz0 4
  have g5 := frozen_of hz0 5
  have g6 := frozen_of hz0 6
  have g7 := frozen_of hz0 7
  simp [pkC, zeroP] at y0 y1 y2 y3 y4 y5 y6 y7 z0 z1 z2 z3 z4 z5 z6 z7
  clear hp0 hz0
  go_wp2_with fail
  refine (HN0.out _).mono ?_
  rintro e w1 ⟨rfl, rfl⟩
  go_wp2_with fail
  refine (HN1.out _).mono ?_
  rintro e w1 ⟨rfl, rfl⟩
  go_wp2_with fail
  have hq := (((HP.out.store 2 (.int .i64 n0)).store 3 (.int .i64 n1)).store 6 (.string (s.extract 8 s.size)))
  have R := row8 (Nat.le_refl _) hq.below hq.z rfl (.int .i64 4) (.int .i64 frm) (.int .i64 n0) (.int .i64 n1) (.int .i64 0) (.int .i64 0) (.string (s.extract 8 s.size)) (.slice none 0 0)
  refine bodyPost_ret (v := .agg (pkC 4 frm n0 n1 0 0 (s.extract 8 s.size) (.slice none 0 0))) ?r ?d ?fin
  case fin => exact ⟨⟨_, rfl, .inr ⟨by decide, n0, n1, 0, 0, _, _, [], rfl, World.ownsRow_nil _ _ _ _, ⟨hb0, hb1, by decide, by decide⟩, by simp, Nat.zero_le _, by simp⟩⟩, R.1⟩
  case d => rfl
  case r => exact results_cell1 Tryz.results68 _ _ w.heap.size _ _ (0, 0) _ (by simp) R.2 Tryz.underlying66 rfl (by kernel_rfl)
end Go.Proofs.YtpmgackgcefalaaGreat
namespace Go.Proofs.YtpmgackgcefalaaGreat
open Go.RowKit
theorem BdAt.grown {w W w3 : World} {C : Array Value} (t : BdAt w W C) {v : Value} {n : Nat} {xs : List Value} {o : Obj} (hown : W.ownsRow w.heap.size 9 1 v n xs) (hg : (W.alloc o).grownBy w3 v.ownBlock) : BdAt w w3 C := by
  have n0 := ownBlock_ne hown t.z (by decide)
  have n2 := ownBlock_ne hown t.p (by decide)
  have l0 := lt_of_heap (heap_alloc_old (o' := o) t.z)
  have l2 := lt_of_heap (heap_alloc_old (o' := o) t.p)
  exact ⟨below_append t.below hown hg t.below.size (Nat.le_refl _), (hg.block _ l0 (Ne.symm n0)).trans (heap_alloc_old t.z), (hg.block _ l2 (Ne.symm n2)).trans (heap_alloc_old t.p)⟩
theorem BdAt.fits {w W : World} {C : Array Value} (t : BdAt w W C) : w.heap.size ≤ W.heap.size ∧ w.heap.size + 1 < W.heap.size := ⟨t.below.size, lt_of_heap t.p⟩
theorem ownsRow_rowSet {base e size n g : Nat} {v : Value} {xs : List Value} (hne : v.ownBlock ≠ some g) : ∀ (vs : List Value) (k : Nat) (w : World), w.ownsRow base e size v n xs → (rowSet w g k vs).ownsRow base e size v n xs
  | [], _, _, h => h
  | u :: vs, k, w, h => ownsRow_rowSet hne vs (k + 1) _ (ownsRow_setCell_ne h ⟨g, k, none⟩ hne u)
set_option maxRecDepth 100000 in
set_option maxHeartbeats 4000000 in
theorem body_long2 (frm : Nat) (s : ByteArray) (hl : 231 ≤ s.size) (hsz : s.size ≤ 140737488355) (w : World) :
    Calls Tryz.prog 68 #[.int .i64 2, .int .i64 frm, .string s] w fun e w' => (∃ C, e = .returned (.agg C) ∧ BodyOf 2 frm s w.heap.size w' C) ∧ Below w.heap.size w w' := by
  have HP := Lib.hid (BdAt.start w (pkC 2 frm 0 0 0 0 ⟨#[]⟩ (.slice none 0 0)))
  simp only [zeroP, pkC] at HP
  have hl' : (231 : Int) ≤ s.size := by omega
  have hn0 := rnumb_any (s.extract 0 4) (by simp; omega)
  have hb0 := num_bound (s.extract 0 4) (by simp; omega)
  generalize hx0 : Sha.num (s.extract 0 4).data.toList = n0 at *
  clear hx0
  have hn1 := rnumb_any (s.extract 4 6) (by simp; omega)
  have hb1' := num_bound (s.extract 4 6) (by simp; omega)
  generalize hx1 : Sha.num (s.extract 4 6).data.toList = n1 at *
  clear hx1
  have lb0 : (4 : Int) ≤ s.size := by omega
  have lb1 : (6 : Int) ≤ s.size := by omega
  have lb2 : (230 : Int) ≤ s.size := by omega
  have HN0 := Lib.hid hn0
  have HN1 := Lib.hid hn1
  clear hn0 hn1
  go_enter Tryz.func68, Tryz.ntmps68
  go_upto_region 2 with fail
  generalize (w.alloc (.cells #[.int .i64 0, .int .i64 0, .int .i64 0, .int .i64 0, .int .i64 0, .int .i64 0, .string ⟨#[]⟩, .slice none 0 0] 66 (0, 0))).alloc (.cells #[.int .i64 2, .int .i64 frm, .int .i64 0, .int .i64 0, .int .i64 0, .int .i64 0, .string ⟨#[]⟩, .slice none 0 0] 66 (0, 0)) = W at *
  have HP : Hid (BdAt w W (pkC 2 frm 0 0 0 0 ⟨#[]⟩ (.slice none 0 0))) := HP
  have hp0 := HP.out.p
  have y3 := cell_of hp0 3
  have y4 := cell_of hp0 4
  have y6 := cell_of hp0 6
  have f3 := frozen_of hp0 3
  have f4 := frozen_of hp0 4
  have f6 := frozen_of hp0 6
  simp [pkC] at y3 y4 y6
  clear hp0
  go_wp2_with fail
  refine (HN0.out _).mono ?_
  rintro e w1 ⟨rfl, rfl⟩
  go_wp2_with fail
  refine (HN1.out _).mono ?_
  rintro e w1 ⟨rfl, rfl⟩
  go_upto_region 9 with fail
  have HP2 : Hid (BdAt w _ (pkC 2 frm 0 n0 n1 0 (s.extract 6 230) (.slice none 0 0))) := Lib.hid (((HP.out.store 3 (.int .i64 n0)).store 4 (.int .i64 n1)).store 6 (.string (s.extract 6 230)))
  clear HP y3 y4 y6 f3 f4 f6
  generalize (((w1.setCell ⟨w.heap.size + 1, 3, none⟩ (.int .i64 n0)).setCell ⟨w.heap.size + 1, 4, none⟩ (.int .i64 n1)).setCell ⟨w.heap.size + 1, 6, none⟩ (.string (s.extract 6 230))) = W2 at *
  have htx : (s.extract 6 230).size ≤ s.size := by simp; omega
  have HTX := Lib.hid htx
  clear htx
  generalize s.extract 6 230 = tx at *
  go_wp2_with fail
  go_loopw [8] (fun u8 wr => ∃ (a : Option Addr) (len cap : Nat) (ss : List ByteArray), u8 = .int .i64 (231 + 32 * ss.length : Nat) ∧ BdAt w wr (pkC 2 frm 0 n0 n1 0 tx (.slice a len cap)) ∧ wr.ownsRow w.heap.size 9 1 (.slice a len cap) ss.length (ss.map Value.string) ∧ 32 * ss.length ≤ s.size ∧ (∀ x ∈ ss, x.size ≤ 32)) (fun u8 _ => s.size - (intOf u8).toNat)
  case atStart => exact ⟨none, 0, 0, [], rfl, HP2.out, World.ownsRow_nil _ _ _ _, by simp, by simp⟩
  case round =>
    clear HP2 HN0 HN1
    obtain ⟨a, len, cap, ss, rfl, hp, hown, hm, hx32⟩ := hrel
    have HX := Lib.hid hx32
    obtain ⟨at', hat⟩ : ∃ t, t = 231 + 32 * ss.length := ⟨_, rfl⟩
    rw [← hat]
    have HP := Lib.hid hp
    have HO := Lib.hid hown
    have y7 := cell_of hp.p 7
    have f7 := frozen_of hp.p 7
    simp [pkC] at y7
    obtain ⟨i0, hi0, hz0, hz1, hz2⟩ := info_parts info_str
    have hb1 := hp.fits.1
    have hb2 := hp.fits.2
    have hnp := ownBlock_ne hown hp.p (by decide)
    clear hp hown hx32
    by_cases hlt : at' < s.size
    · have hlt' : (at' : Int) < s.size := by omega
      obtain ⟨e', he⟩ : ∃ e' : Nat, e' = min (at' + 32) s.size := ⟨_, rfl⟩
      have he1 : at' ≤ e' := by omega
      have he2 : e' ≤ s.size := by omega
      have hif : (if (s.size : Int) < at' + 32 then (s.size : Int) else at' + 32) = e' := by split <;> omega
      have hxs : Hid ((s.extract at' e').size ≤ 32) := Lib.hid (by simp; omega)
      have q0 : (0 : Int) ≤ at' := by omega
      have q1 : (at' : Int) ≤ e' := by omega
      have q2 : (e' : Int) ≤ s.size := by omega
      have q3 : (0 : Int) ≤ e' := by omega
      have hnext : Hid (at' + 32 = 231 + 32 * (ss.length + 1)) := Lib.hid (by omega)
      have hb32 : Hid (32 * (ss.length + 1) ≤ s.size) := Lib.hid (by omega)
      obtain ⟨iw1, iw2, iw3⟩ := idx ((at' : Int) + 32) (at' + 32) (by omega) (by omega)
      have HAT := Lib.hid hat
      clear he hat
      go_upto_region 12 with fail
      go_region_law ((refine step_append_lies _ (by rfl) _ _ _ (by rfl) w.heap.size 9 i0 _ 1 16 Tryz.underlying23 hi0 hz0 hz1 hz2 rfl (by decide) (.slice a len cap) ss.length (ss.map Value.string) (by rfl) ((Same.owns (Same.drew _) HO.out).alloc _) ⟨wr.heap.size, 0, none⟩ 1 1 [.string (s.extract at' e')] (by rfl) (by rfl) (World.news_of_block (cs := #[.string (s.extract at' e')]) (t := 9) (fr := (0, 0)) (heap_alloc_at (by simp) _)) (by simp [Value.oneCell']) (by decide) (by simp only [maxLen]; omega) (by omega) (by simp; omega) _ rfl ?_; intro gg cap2 w3 hown3 hgrow hat2 hlt3; have hz7 := (hgrow.frozen_far ⟨w.heap.size + 1, 7, none⟩ (by simp; omega) (Ne.symm hnp)).trans (frozen_of (heap_alloc_old (HP.out.after ((Same.drew _).below _)).p) 7); have hc7 : w3.cell? ⟨w.heap.size + 1, 7, none⟩ = some (.slice a len cap) := (hgrow.cell_far ⟨w.heap.size + 1, 7, none⟩ (by simp; omega) (Ne.symm hnp)).trans (cell_of (heap_alloc_old (HP.out.after ((Same.drew _).below _)).p) 7)))
      all_goals
        have hp3 := (HP.out.after ((Same.drew wr).below _)).grown (Same.owns (Same.drew wr) HO.out) hgrow
        have hp4 := hp3.store 7 (.slice (some ⟨gg, 0, none⟩) (ss.length + 1) cap2)
        have hown4 := ownsRow_setCell_ne hown3 ⟨w.heap.size + 1, 7, none⟩ (ownBlock_ne hown3 hp3.p (by decide)) (.slice (some ⟨gg, 0, none⟩) (ss.length + 1) cap2)
        have HP4 := Lib.hid hp4
        have HO4 := Lib.hid hown4
        have HX4 : Hid (∀ x ∈ ss ++ [s.extract at' e'], x.size ≤ 32) := by
          intro x hx
          rw [List.mem_append] at hx
          rcases hx with hx | hx
          · exact HX.out x hx
          · rw [List.mem_singleton] at hx
            rw [hx]; exact hxs.out
        clear hp3 hp4 hown4 hown3 hgrow hat2 hlt3 hz7 hc7 hnp HO HP y7 f7 HX hxs
        go_wp2
        go_roundw
        case rel => exact ⟨some ⟨gg, 0, none⟩, ss.length + 1, cap2, ss ++ [s.extract at' e'], by have := hnext.out; simp; omega, HP4.out, by simpa using HO4.out, by have := hb32.out; simp; omega, HX4.out⟩
        case measure => simp [intOf]; omega
    · have hlt' : ¬ (at' : Int) < s.size := by omega
      have HSL := Lib.hid (ownsRow_rowSet (ownBlock_ne HO.out HP.out.z (by decide)) [.int .i64 2, .int .i64 frm, .int .i64 0, .int .i64 n0, .int .i64 n1, .int .i64 0, .string tx, .slice a len cap] 0 _ HO.out)
      have hp0 := HP.out.p
      have hz0 := HP.out.z
      have y0 := cell_of hp0 0
      have y1 := cell_of hp0 1
      have y2 := cell_of hp0 2
      have y3 := cell_of hp0 3
      have y4 := cell_of hp0 4
      have y5 := cell_of hp0 5
      have y6 := cell_of hp0 6
      have z0 := cell_of hz0 0
      have z1 := cell_of hz0 1
      have z2 := cell_of hz0 2
      have z3 := cell_of hz0 3
      have z4 := cell_of hz0 4
      have z5 := cell_of hz0 5
      have z6 := cell_of hz0 6
      have z7 := cell_of hz0 7
      have g0 := frozen_of hz0 0
      have g1 := frozen_of hz0 1
      have g2 := frozen_of hz0 2
      have g3 := frozen_of hz0 3
      have g4 := frozen_of hz0 4
      have g5 := frozen_of hz0 5
      have g6 := frozen_of hz0 6
      have g7 := frozen_of hz0 7
      simp [pkC, zeroP] at y0 y1 y2 y3 y4 y5 y6 z0 z1 z2 z3 z4 z5 z6 z7
      clear hp0 hz0
      have hls : Hid (ss.length ≤ s.size) := Lib.hid (by omega)
      have HAT := Lib.hid hat
      clear hat hnp hi0 hz1 hz2
      go_wp2_with fail
      have R := row8 (Nat.le_refl _) HP.out.below HP.out.z rfl (.int .i64 2) (.int .i64 frm) (.int .i64 0) (.int .i64 n0) (.int .i64 n1) (.int .i64 0) (.string tx) (.slice a len cap)
      refine bodyPost_ret (v := .agg (pkC 2 frm 0 n0 n1 0 tx (.slice a len cap))) ?r ?d ?fin
      case fin =>
        refine ⟨⟨_, rfl, .inr ⟨by decide, 0, n0, n1, 0, tx, _, ss, rfl, ?_, ⟨by decide, hb0, hb1', by decide⟩, HTX.out, hls.out, HX.out⟩⟩, R.1⟩
        have hsl := HSL.out
        simp only [rowSet, Nat.zero_add, Nat.reduceAdd] at hsl
        exact hsl
      case d => rfl
      case r => exact results_cell1 Tryz.results68 _ _ w.heap.size _ _ (0, 0) _ (by simp) R.2 Tryz.underlying66 rfl (by kernel_rfl)
theorem body_any (kind frm : Nat) (s : ByteArray) (hsz : s.size ≤ 140737488355) (w : World) :
    Calls Tryz.prog 68 #[.int .i64 kind, .int .i64 frm, .string s] w fun e w' => (∃ C, e = .returned (.agg C) ∧ BodyOf kind frm s w.heap.size w' C) ∧ Below w.heap.size w w' := by
  have hsz' : s.size ≤ 140737488355327 := by omega
  by_cases h1 : kind = 1
  · subst h1; exact body_one frm s hsz' w
  by_cases h2 : kind = 2
  · subst h2
    by_cases hl : s.size < 231
    · exact body_short2 frm s hl hsz' w
    · exact body_long2 frm s (by omega) hsz w
  by_cases h3 : kind = 3
  · subst h3
    by_cases hl : s.size < 12
    · exact body_short3 frm s hl hsz' w
    · exact body_long3 frm s (by omega) hsz' w
  by_cases h4 : kind = 4
  · subst h4
    by_cases hl : s.size < 8
    · exact body_short4 frm s hl hsz' w
    · exact body_long4 frm s (by omega) hsz' w
  exact body_none kind frm s h1 h2 h3 h4 hsz' w
end Go.Proofs.YtpmgackgcefalaaGreat
namespace Go.Proofs.YtpmgackgcefalaaGreat
open Go.RowKit
theorem info_bool : (Tryz.prog.info? 4).map (fun i => (i.zero, i.size, i.bytes)) = some (some (.bool false), 1, 1) := by kernel_rfl
def TakesBools (e : Ending) : Prop := ∃ (v : Value) (z : Int), e = .returned (.tuple #[v, .int .i64 z])
set_option maxRecDepth 100000 in
set_option maxHeartbeats 2000000 in
theorem rset_any (n : Int) (s : ByteArray) (w : World) :
    Calls Tryz.prog 89 #[.int .i64 n, .string s] w fun e w' => TakesBools e ∧ Below w.heap.size w w' := by
  by_cases h1 : n < 0
  · go_enter Tryz.func89, Tryz.ntmps89
    go_wp2_with fail
    go_ret2
    exact ⟨⟨_, _, rfl⟩, Below.refl _ _⟩
  by_cases h2 : 256 < n
  · go_enter Tryz.func89, Tryz.ntmps89
    go_wp2_with fail
    go_ret2
    exact ⟨⟨_, _, rfl⟩, Below.refl _ _⟩
  by_cases h3 : (s.size : Int) = 32
  case neg =>
    have h3' : ((s.size : Int) == 32) = false := by simp [h3]
    go_enter Tryz.func89, Tryz.ntmps89
    go_wp2_with fail
    go_ret2
    exact ⟨⟨_, _, rfl⟩, Below.refl _ _⟩
  have hs : s.size = 32 := by omega
  go_enter Tryz.func89, Tryz.ntmps89
  go_wp2_with fail
  go_loopw [6, 7] (fun v i wr => ∃ (t k : Nat) (xs : List Value), t ≤ 256 ∧ i = .int .i64 t ∧ k ≤ t ∧ Below w.heap.size w wr ∧ wr.ownsRow w.heap.size 4 1 v k xs) (fun _ i _ => 256 - (intOf i).toNat)
  case atStart => exact ⟨0, 0, [], by omega, rfl, by omega, Below.refl _ _, World.ownsRow_nil _ _ _ _⟩
  case round =>
    obtain ⟨t, k, xs, ht, rfl, hk, hb, hown⟩ := hrel
    have HB := Lib.hid hb
    have HO := Lib.hid hown
    by_cases hlt : t < 256
    · have hlt' : (t : Int) < 256 := by omega
      clear hb hown
      have t0 : (0 : Int) ≤ t := by omega
      obtain ⟨q, hq⟩ : ∃ q : Nat, q = t / 64 := ⟨_, rfl⟩
      obtain ⟨r, hr⟩ : ∃ r : Nat, r = t % 64 := ⟨_, rfl⟩
      obtain ⟨p, hp⟩ : ∃ p : Nat, p = r / 8 := ⟨_, rfl⟩
      obtain ⟨u, hu⟩ : ∃ u : Nat, u = t % 8 := ⟨_, rfl⟩
      have q4 : q < 4 := by omega
      have p8 : p < 8 := by omega
      have f1 : (t : Int) / 64 = q := by omega
      have f2 : (t : Int).tmod 64 = r := by rw [Int.tmod_eq_emod_of_nonneg t0, hr]; rfl
      have f3 : (r : Int) / 8 = p := by omega
      have f4 : (t : Int).tmod 8 = u := by rw [Int.tmod_eq_emod_of_nonneg t0, hu]; rfl
      have f5 : (0 : Int) ≤ r := by omega
      have f6 : (0 : Int) ≤ u := by omega
      have f7 : (u : Int) < 64 := by omega
      have hI := idx (8 * (q : Int) + 7 - p) (8 * q + 7 - p) (by omega) (by omega)
      have g1 : 8 * (q : Int) + 7 - p < 32 := by omega
      have g2 : 0 ≤ 8 * (q : Int) + 7 - p := by omega
      have g3 : 8 * q + 7 - p < s.size := by omega
      clear hq hr hp hu
      go_upto_region 11 with fail
      generalize (bits .and .i64 (wrap64 ((s[8 * q + 7 - p]'g3).toNat : Int) / 2 ^ u) 1 == 1) = bb
      generalize bits .and .i64 (wrap64 ((s[8 * q + 7 - p]'g3).toNat : Int) / 2 ^ u) 1 = bz
      have hbs := HB.out.size
      by_cases hn : n ≤ (t : Int)
      · cases bb
        · go_wp2_with fail
          go_roundw
          case rel => exact ⟨t + 1, k, xs, by omega, by go_num, by omega, HB.out, HO.out⟩
          case measure => simp [intOf]; omega
        · go_wp2_with fail
          go_ret2
          exact ⟨⟨_, _, rfl⟩, HB.out⟩
      · have hn' : (t : Int) < n := by omega
        cases bb
        · go_wp2_with (at_builtin; refine wpList_append_elem rfl _ _ 129 rfl w.heap.size 4 (.bool false) 1 1 Tryz.underlying129 info_bool rfl (by decide) _ _ _ rfl HO.out _ rfl rfl ?_ (by omega) (by decide) (by omega) ?_)
          · simp [Value.oneCell']
          intro v' w2 hown2 hg2
          have HB2 := Lib.hid (below_append HB.out HO.out hg2 hbs (Nat.le_refl _))
          have HO2 := Lib.hid hown2
          clear hown2 hg2
          go_wp2_with fail
          go_roundw
          case rel => exact ⟨t + 1, k + 1, _, by omega, by go_num, by omega, HB2.out, HO2.out⟩
          case measure => simp [intOf]; omega
        · go_wp2_with (at_builtin; refine wpList_append_elem rfl _ _ 129 rfl w.heap.size 4 (.bool false) 1 1 Tryz.underlying129 info_bool rfl (by decide) _ _ _ rfl HO.out _ rfl rfl ?_ (by omega) (by decide) (by omega) ?_)
          · simp [Value.oneCell']
          intro v' w2 hown2 hg2
          have HB2 := Lib.hid (below_append HB.out HO.out hg2 hbs (Nat.le_refl _))
          have HO2 := Lib.hid hown2
          clear hown2 hg2
          go_wp2_with fail
          go_roundw
          case rel => exact ⟨t + 1, k + 1, _, by omega, by go_num, by omega, HB2.out, HO2.out⟩
          case measure => simp [intOf]; omega
    · have hlt' : ¬ (t : Int) < 256 := by omega
      clear hb hown
      go_wp2_with fail
      go_ret2
      exact ⟨⟨_, _, rfl⟩, HB.out⟩
end Go.Proofs.YtpmgackgcefalaaGreat
