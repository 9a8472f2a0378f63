/-
  The walks of the document's answer for layer 26: a packet's bytes.
  A packet's first bytes: when they are what the document's Put lays. Plain.
  The walk of the document's answer for layer 26: a packet out of bytes.
  The walk of the document's answer for layer 34: the header of an offer.
  The walks of merkle: widths, sums, cuts.
  The walks of merkle: how many leaves stand on the left.
  Trees over leaves, and where two of one sum part: plain, and the walk of clash.Valid.
  The walk of clash.grown: the tree over leaves, in memory.
  The walks of clash.apart and clash.Leaves.
  The walk of clash.Leaves.
  The walks of the document's answer for layer 15: widths, and how many leaves stand on the left.
  The walks of the document's answer for layer 17, under the contract of its sum (RSumOk).
  The walk of the document's Leaves, under the contract of its sum.
  The walk of the document's answer for layer 18: is a tag right? Under the contract of its tags (RTagOk).
  Appending to what '[]byte(s)' made: a block whose frozen stretch lies behind its end.
  The walks of the document's answer for layer 2: turned words.
  The walks of the document's answer for layer 2: a text with what stands behind it.
-/
import Derived.Test.YtpmgackgcefalaaGreatPart09
import Derived.Test.YtpmgackgcefalaaGreatPart06
import Derived.Test.YtpmgackgcefalaaGreatPart05
import Derived.Deep.CutRange
import Derived.Deep.RegionHeld3
import Derived.BigRegion
import Derived.Test.YtpmgackgcefalaaGreatPart08
import Derived.Test.YtpmgackgcefalaaGreatPart01
import Derived.Lib.FrozenHead2
import Derived.Laws.IdiomStrings
import Derived.Deep.QuietTactic
import Derived.BigQuiet
set_option linter.unusedSimpArgs false
set_option linter.unusedVariables false
set_option linter.unusedSectionVars false
set_option linter.unnecessarySimpa false
set_option linter.defProp false
namespace Go.Proofs.YtpmgackgcefalaaGreat
open Go.RowKit
def headB (kind frm : Nat) : ByteArray := (⟨#[83, 76, 80, 49]⟩ ++ str (Sha.fixed kind 1)) ++ str (Sha.fixed frm 4)
def SomePut (e : Ending) : Prop := ∃ (t : ByteArray) (z : Int), e = .returned (.tuple #[.string t, .int .i64 z])
def rputV (frm : Nat) (text : ByteArray) : Value := if offerMay frm text = true then .tuple #[.string (headB 1 frm ++ text), .int .i64 0] else .tuple #[.string ⟨#[]⟩, .int .i64 1]
set_option maxRecDepth 100000 in
set_option maxHeartbeats 2000000 in
theorem rput_offer (frm : Nat) (text : ByteArray) (hf : frm < 4611686018427387904) (hsz : text.size ≤ 140737488355327) (w : World) :
    Calls Tryz.prog 31 #[.agg (pkC 1 frm 0 0 0 0 text (.slice none 0 0))] w fun e w' => e = .returned (rputV frm text) ∧ Below w.heap.size w w' := by
  obtain ⟨V, hV⟩ : ∃ V, V = rputV frm text := ⟨_, rfl⟩
  rw [← hV]
  unfold rputV at hV
  have HM := Lib.hid (fun W => rmay_offer frm text W)
  have h0 := Lib.hid (CkAt.start w (pkC 1 frm 0 0 0 0 text (.slice none 0 0)))
  have f0 : (0 : Int) ≤ frm := by omega
  have f1 : (frm : Int) < 4611686018427387904 := by omega
  generalize offerMay frm text = M at *
  simp only [pkC] at h0 HM ⊢
  have HV := Lib.hid hV
  clear hV
  go_enter Tryz.func31, Tryz.ntmps31
  go_wp2_with fail
  refine (HM.out _).mono ?_
  rintro e w1 ⟨rfl, hb1⟩
  have K1 := Lib.hid (h0.out.after hb1)
  clear hb1 h0 HM
  have hV := HV.out
  clear HV
  cases M
  · rw [if_neg (by decide)] at hV
    subst hV
    go_wp2_with fail
    go_ret2
    exact ⟨rfl, K1.out.below⟩
  rw [if_pos rfl] at hV
  have HV := Lib.hid hV
  clear hV
  have q1 : (str (Sha.fixed 1 1)).size = 1 := by rw [str_size, Sha.fixed_length]
  have q2 : (str (Sha.fixed frm 4)).size = 4 := by rw [str_size, Sha.fixed_length]
  have q0 : (ByteArray.mk #[83, 76, 80, 49]).size = 4 := rfl
  go_wp2_with fail
  refine region_pure (by kernel_rfl) (by kernel_rfl) fun I ne f hfb hback => ?_
  have hKp := K1.out.p
  have hKl := lt_of_heap hKp
  have d0 : ∀ jx, (f jx).cell? ⟨w.heap.size, 0, none⟩ = some (.int .i64 1) := fun jx => by rw [(hfb jx).cell hKl, cell_of hKp]; rfl
  have d1 : ∀ jx, (f jx).cell? ⟨w.heap.size, 1, none⟩ = some (.int .i64 frm) := fun jx => by rw [(hfb jx).cell hKl, cell_of hKp]; rfl
  have hfb' := Lib.hid hfb
  clear hfb hKp hKl
  repeat (quiet_step ((go_at_call 59; exact pure_of hfb'.out hback (rfixed_i _ _ (by omega) (by omega) (by decide) (by decide) _))))
  refine wpQuiet_nil ?_
  intro ix
  have K1' := Lib.hid (K1.out.after (hfb'.out ix))
  generalize f ix = w3 at *
  clear hfb' d0 d1 hback
  have hh : Hid ((⟨#[83, 76, 80, 49]⟩ ++ str (Sha.fixed 1 1)) ++ str (Sha.fixed frm 4) = headB 1 frm) := rfl
  have y0 := cell_of K1'.out.p 0
  have y6 := cell_of K1'.out.p 6
  simp at y0 y6
  have p1 : ¬ 9223372036854775807 < 9 + text.size := by omega
  go_wp2_with fail
  go_ret2
  exact ⟨by rw [HV.out, ← hh.out]; rfl, K1'.out.below⟩
set_option maxRecDepth 100000 in
set_option maxHeartbeats 4000000 in
theorem rput_other (kind : Nat) (k1 : kind ≠ 1) (k2 : kind ≠ 2) (k3 : kind ≠ 3) (hk : kind < 4611686018427387904) (frm seq id i n : Nat) (text : ByteArray) (a : Option Addr) (cap : Nat) (ps : List ByteArray) (w : World) (hel : ElemsAt strS w a cap ps) (hsz : ps.length ≤ 140737488355327)
    (hf : frm < 4611686018427387904) (hs : seq < 4611686018427387904) (hd : id < 4611686018427387904) (hi : i < 4611686018427387904) (hn : n < 4611686018427387904) (ht : text.size ≤ 140737488355327) (hp : ∀ x ∈ ps, x.size ≤ 32) :
    Calls Tryz.prog 31 #[.agg (pkC kind frm seq id i n text (.slice a ps.length cap))] w fun e w' => SomePut e ∧ Below w.heap.size w w' := by
  have HM := Lib.hid (fun W hW => rmay_any kind frm seq id i n text (.slice a ps.length cap) ps (by omega) W hW hsz)
  have h0 := Lib.hid (CkAt.start w (pkC kind frm seq id i n text (.slice a ps.length cap)))
  have f0 : (0 : Int) ≤ frm := by omega
  have f1 : (frm : Int) < 4611686018427387904 := by omega
  have s0 : (0 : Int) ≤ seq := by omega
  have s1 : (seq : Int) < 4611686018427387904 := by omega
  have d0' : (0 : Int) ≤ id := by omega
  have d1' : (id : Int) < 4611686018427387904 := by omega
  have i0 : (0 : Int) ≤ i := by omega
  have i1 : (i : Int) < 4611686018427387904 := by omega
  have n0 : (0 : Int) ≤ n := by omega
  have n1' : (n : Int) < 4611686018427387904 := by omega
  have l0 : (0 : Int) ≤ ps.length := by omega
  have l1 : (ps.length : Int) < 4611686018427387904 := by omega
  have n1 : ((kind : Int) == 1) = false := beq_eq_false_iff_ne.2 (by omega)
  have n2 : ((kind : Int) == 2) = false := beq_eq_false_iff_ne.2 (by omega)
  have n3 : ((kind : Int) == 3) = false := beq_eq_false_iff_ne.2 (by omega)
  have kk0 : (0 : Int) ≤ kind := by omega
  have kk1 : (kind : Int) < 4611686018427387904 := by omega
  simp only [pkC] at h0 HM ⊢
  have HEL := Lib.hid hel
  have HP32 := Lib.hid hp
  clear hel hp
  go_enter Tryz.func31, Tryz.ntmps31
  go_wp2_with fail
  refine (HM.out _ ⟨a, cap, rfl, HEL.out.mono h0.out.below⟩).mono ?_
  rintro e w1 ⟨⟨b, rfl⟩, hb1⟩
  have K1 := Lib.hid (h0.out.after hb1)
  clear hb1 HM h0
  cases b
  · go_wp2_with fail
    go_ret2
    exact ⟨⟨_, _, rfl⟩, K1.out.below⟩
  have q1 : (str (Sha.fixed kind 1)).size = 1 := by rw [str_size, Sha.fixed_length]
  have q2 : (str (Sha.fixed frm 4)).size = 4 := by rw [str_size, Sha.fixed_length]
  have q0 : (ByteArray.mk #[83, 76, 80, 49]).size = 4 := rfl
  have q3 : (str (Sha.fixed seq 4)).size = 4 := by rw [str_size, Sha.fixed_length]
  have q4 : (str (Sha.fixed id 4)).size = 4 := by rw [str_size, Sha.fixed_length]
  have q5 : (str (Sha.fixed i 2)).size = 2 := by rw [str_size, Sha.fixed_length]
  have q6 : (str (Sha.fixed n 2)).size = 2 := by rw [str_size, Sha.fixed_length]
  have q7 : (str (Sha.fixed ps.length 1)).size = 1 := by rw [str_size, Sha.fixed_length]
  go_wp2_with fail
  refine region_pure (by kernel_rfl) (by kernel_rfl) fun I ne f hfb hback => ?_
  have hKp := K1.out.p
  have hKl := lt_of_heap hKp
  have d0 : ∀ jx, (f jx).cell? ⟨w.heap.size, 0, none⟩ = some (.int .i64 kind) := fun jx => by rw [(hfb jx).cell hKl, cell_of hKp]; rfl
  have d1 : ∀ jx, (f jx).cell? ⟨w.heap.size, 1, none⟩ = some (.int .i64 frm) := fun jx => by rw [(hfb jx).cell hKl, cell_of hKp]; rfl
  have hfb' := Lib.hid hfb
  clear hfb hKp hKl
  repeat (quiet_step ((go_at_call 59; exact pure_of hfb'.out hback (rfixed_i _ _ (by omega) (by omega) (by decide) (by decide) _))))
  refine wpQuiet_nil ?_
  intro ix
  have K1' := Lib.hid (K1.out.after (hfb'.out ix))
  generalize f ix = w3 at *
  clear hfb' d0 d1 hback
  have y0 := cell_of K1'.out.p 0
  have y1 := cell_of K1'.out.p 1
  have y2 := cell_of K1'.out.p 2
  have y3 := cell_of K1'.out.p 3
  have y4 := cell_of K1'.out.p 4
  have y5 := cell_of K1'.out.p 5
  have y6 := cell_of K1'.out.p 6
  have y7 := cell_of K1'.out.p 7
  simp at y0 y1 y2 y3 y4 y5 y6 y7
  have hh : (⟨#[83, 76, 80, 49]⟩ ++ str (Sha.fixed kind 1) ++ str (Sha.fixed frm 4)).size = 9 := by simp [ByteArray.size_append, q0, q1, q2]
  generalize ⟨#[83, 76, 80, 49]⟩ ++ str (Sha.fixed kind 1) ++ str (Sha.fixed frm 4) = S at *
  go_wp2_with fail
  clear y0 y1 y2 y3 y4 y5 y6 y7
  refine region_pure (by kernel_rfl) (by kernel_rfl) fun I ne f hfb hback => ?_
  have hKp := K1'.out.p
  have hKl := lt_of_heap hKp
  have d2 : ∀ jx, (f jx).cell? ⟨w.heap.size, 2, none⟩ = some (.int .i64 seq) := fun jx => by rw [(hfb jx).cell hKl, cell_of hKp]; rfl
  have d3 : ∀ jx, (f jx).cell? ⟨w.heap.size, 3, none⟩ = some (.int .i64 id) := fun jx => by rw [(hfb jx).cell hKl, cell_of hKp]; rfl
  have hfb' := Lib.hid hfb
  clear hfb hKp hKl
  repeat (quiet_step ((go_at_call 59; exact pure_of hfb'.out hback (rfixed_i _ _ (by omega) (by omega) (by decide) (by decide) _))))
  refine wpQuiet_nil ?_
  intro ix
  have K2 := Lib.hid (K1'.out.after (hfb'.out ix))
  generalize f ix = w3 at *
  clear hfb' d2 d3 hback
  have y0 := cell_of K2.out.p 0
  have y1 := cell_of K2.out.p 1
  have y2 := cell_of K2.out.p 2
  have y3 := cell_of K2.out.p 3
  have y4 := cell_of K2.out.p 4
  have y5 := cell_of K2.out.p 5
  have y6 := cell_of K2.out.p 6
  have y7 := cell_of K2.out.p 7
  simp at y0 y1 y2 y3 y4 y5 y6 y7
  have hT : (S ++ str (Sha.fixed seq 4) ++ str (Sha.fixed id 4)).size = 17 := by simp [ByteArray.size_append, hh, q3, q4]
  generalize S ++ str (Sha.fixed seq 4) ++ str (Sha.fixed id 4) = T at *
  have p1 : ¬ 9223372036854775807 < 17 + text.size := by omega
  go_wp2_with fail
  go_ret2
  exact ⟨⟨_, _, rfl⟩, K2.out.below⟩
set_option maxRecDepth 100000 in
set_option maxHeartbeats 4000000 in
theorem rput_three (frm seq id i n : Nat) (text : ByteArray) (a : Option Addr) (cap : Nat) (ps : List ByteArray) (w : World) (hel : ElemsAt strS w a cap ps) (hsz : ps.length ≤ 140737488355327)
    (hf : frm < 4611686018427387904) (hs : seq < 4611686018427387904) (hd : id < 4611686018427387904) (hi : i < 4611686018427387904) (hn : n < 4611686018427387904) (ht : text.size ≤ 140737488355327) (hp : ∀ x ∈ ps, x.size ≤ 32) :
    Calls Tryz.prog 31 #[.agg (pkC 3 frm seq id i n text (.slice a ps.length cap))] w fun e w' => SomePut e ∧ Below w.heap.size w w' := by
  have HM := Lib.hid (fun W hW => rmay_any 3 frm seq id i n text (.slice a ps.length cap) ps (by decide) W hW hsz)
  have h0 := Lib.hid (CkAt.start w (pkC 3 frm seq id i n text (.slice a ps.length cap)))
  have f0 : (0 : Int) ≤ frm := by omega
  have f1 : (frm : Int) < 4611686018427387904 := by omega
  have s0 : (0 : Int) ≤ seq := by omega
  have s1 : (seq : Int) < 4611686018427387904 := by omega
  have d0' : (0 : Int) ≤ id := by omega
  have d1' : (id : Int) < 4611686018427387904 := by omega
  have i0 : (0 : Int) ≤ i := by omega
  have i1 : (i : Int) < 4611686018427387904 := by omega
  have n0 : (0 : Int) ≤ n := by omega
  have n1' : (n : Int) < 4611686018427387904 := by omega
  have l0 : (0 : Int) ≤ ps.length := by omega
  have l1 : (ps.length : Int) < 4611686018427387904 := by omega
  simp only [pkC] at h0 HM ⊢
  have HEL := Lib.hid hel
  have HP32 := Lib.hid hp
  clear hel hp
  go_enter Tryz.func31, Tryz.ntmps31
  go_wp2_with fail
  refine (HM.out _ ⟨a, cap, rfl, HEL.out.mono h0.out.below⟩).mono ?_
  rintro e w1 ⟨⟨b, rfl⟩, hb1⟩
  have K1 := Lib.hid (h0.out.after hb1)
  clear hb1 HM h0
  cases b
  · go_wp2_with fail
    go_ret2
    exact ⟨⟨_, _, rfl⟩, K1.out.below⟩
  have q1 : (str (Sha.fixed 3 1)).size = 1 := by rw [str_size, Sha.fixed_length]
  have q2 : (str (Sha.fixed frm 4)).size = 4 := by rw [str_size, Sha.fixed_length]
  have q0 : (ByteArray.mk #[83, 76, 80, 49]).size = 4 := rfl
  have q3 : (str (Sha.fixed seq 4)).size = 4 := by rw [str_size, Sha.fixed_length]
  have q4 : (str (Sha.fixed id 4)).size = 4 := by rw [str_size, Sha.fixed_length]
  have q5 : (str (Sha.fixed i 2)).size = 2 := by rw [str_size, Sha.fixed_length]
  have q6 : (str (Sha.fixed n 2)).size = 2 := by rw [str_size, Sha.fixed_length]
  have q7 : (str (Sha.fixed ps.length 1)).size = 1 := by rw [str_size, Sha.fixed_length]
  go_wp2_with fail
  refine region_pure (by kernel_rfl) (by kernel_rfl) fun I ne f hfb hback => ?_
  have hKp := K1.out.p
  have hKl := lt_of_heap hKp
  have d0 : ∀ jx, (f jx).cell? ⟨w.heap.size, 0, none⟩ = some (.int .i64 3) := fun jx => by rw [(hfb jx).cell hKl, cell_of hKp]; rfl
  have d1 : ∀ jx, (f jx).cell? ⟨w.heap.size, 1, none⟩ = some (.int .i64 frm) := fun jx => by rw [(hfb jx).cell hKl, cell_of hKp]; rfl
  have hfb' := Lib.hid hfb
  clear hfb hKp hKl
  repeat (quiet_step ((go_at_call 59; exact pure_of hfb'.out hback (rfixed_i _ _ (by omega) (by omega) (by decide) (by decide) _))))
  refine wpQuiet_nil ?_
  intro ix
  have K1' := Lib.hid (K1.out.after (hfb'.out ix))
  generalize f ix = w3 at *
  clear hfb' d0 d1 hback
  have y0 := cell_of K1'.out.p 0
  have y1 := cell_of K1'.out.p 1
  have y2 := cell_of K1'.out.p 2
  have y3 := cell_of K1'.out.p 3
  have y4 := cell_of K1'.out.p 4
  have y5 := cell_of K1'.out.p 5
  have y6 := cell_of K1'.out.p 6
  have y7 := cell_of K1'.out.p 7
  simp at y0 y1 y2 y3 y4 y5 y6 y7
  have hh : (⟨#[83, 76, 80, 49]⟩ ++ str (Sha.fixed 3 1) ++ str (Sha.fixed frm 4)).size = 9 := by simp [ByteArray.size_append, q0, q1, q2]
  generalize ⟨#[83, 76, 80, 49]⟩ ++ str (Sha.fixed 3 1) ++ str (Sha.fixed frm 4) = S at *
  go_wp2_with fail
  clear y0 y1 y2 y3 y4 y5 y6 y7
  refine region_pure (by kernel_rfl) (by kernel_rfl) fun I ne f hfb hback => ?_
  have hKp := K1'.out.p
  have hKl := lt_of_heap hKp
  have d2 : ∀ jx, (f jx).cell? ⟨w.heap.size, 2, none⟩ = some (.int .i64 seq) := fun jx => by rw [(hfb jx).cell hKl, cell_of hKp]; rfl
  have d3 : ∀ jx, (f jx).cell? ⟨w.heap.size, 3, none⟩ = some (.int .i64 id) := fun jx => by rw [(hfb jx).cell hKl, cell_of hKp]; rfl
  have hfb' := Lib.hid hfb
  clear hfb hKp hKl
  repeat (quiet_step ((go_at_call 59; exact pure_of hfb'.out hback (rfixed_i _ _ (by omega) (by omega) (by decide) (by decide) _))))
  refine wpQuiet_nil ?_
  intro ix
  have K2 := Lib.hid (K1'.out.after (hfb'.out ix))
  generalize f ix = w3 at *
  clear hfb' d2 d3 hback
  have y0 := cell_of K2.out.p 0
  have y1 := cell_of K2.out.p 1
  have y2 := cell_of K2.out.p 2
  have y3 := cell_of K2.out.p 3
  have y4 := cell_of K2.out.p 4
  have y5 := cell_of K2.out.p 5
  have y6 := cell_of K2.out.p 6
  have y7 := cell_of K2.out.p 7
  simp at y0 y1 y2 y3 y4 y5 y6 y7
  have hT : (S ++ str (Sha.fixed seq 4) ++ str (Sha.fixed id 4)).size = 17 := by simp [ByteArray.size_append, hh, q3, q4]
  generalize S ++ str (Sha.fixed seq 4) ++ str (Sha.fixed id 4) = T at *
  go_wp2_with fail
  clear y0 y1 y2 y3 y4 y5 y6 y7
  refine region_pure (by kernel_rfl) (by kernel_rfl) fun I ne f hfb hback => ?_
  have hKp := K2.out.p
  have hKl := lt_of_heap hKp
  have d4 : ∀ jx, (f jx).cell? ⟨w.heap.size, 4, none⟩ = some (.int .i64 i) := fun jx => by rw [(hfb jx).cell hKl, cell_of hKp]; rfl
  have d5 : ∀ jx, (f jx).cell? ⟨w.heap.size, 5, none⟩ = some (.int .i64 n) := fun jx => by rw [(hfb jx).cell hKl, cell_of hKp]; rfl
  have hfb' := Lib.hid hfb
  clear hfb hKp hKl
  repeat (quiet_step ((go_at_call 59; exact pure_of hfb'.out hback (rfixed_i _ _ (by omega) (by omega) (by decide) (by decide) _))))
  refine wpQuiet_nil ?_
  intro ix
  have K3 := Lib.hid (K2.out.after (hfb'.out ix))
  generalize f ix = w3 at *
  clear hfb' d4 d5 hback
  have y0 := cell_of K3.out.p 0
  have y1 := cell_of K3.out.p 1
  have y2 := cell_of K3.out.p 2
  have y3 := cell_of K3.out.p 3
  have y4 := cell_of K3.out.p 4
  have y5 := cell_of K3.out.p 5
  have y6 := cell_of K3.out.p 6
  have y7 := cell_of K3.out.p 7
  simp at y0 y1 y2 y3 y4 y5 y6 y7
  have hU : (T ++ str (Sha.fixed i 2) ++ str (Sha.fixed n 2)).size = 21 := by simp [ByteArray.size_append, hT, q5, q6]
  generalize T ++ str (Sha.fixed i 2) ++ str (Sha.fixed n 2) = U at *
  have p1 : ¬ 9223372036854775807 < 21 + text.size := by omega
  go_wp2_with fail
  go_ret2
  exact ⟨⟨_, _, rfl⟩, K3.out.below⟩
set_option maxRecDepth 100000 in
set_option maxHeartbeats 4000000 in
theorem rput_two (frm seq id i n : Nat) (text : ByteArray) (a : Option Addr) (cap : Nat) (ps : List ByteArray) (w : World) (hel : ElemsAt strS w a cap ps) (hsz : ps.length ≤ 140737488355327)
    (hf : frm < 4611686018427387904) (hs : seq < 4611686018427387904) (hd : id < 4611686018427387904) (hi : i < 4611686018427387904) (hn : n < 4611686018427387904) (ht : text.size ≤ 140737488355327) (hp : ∀ x ∈ ps, x.size ≤ 32) :
    Calls Tryz.prog 31 #[.agg (pkC 2 frm seq id i n text (.slice a ps.length cap))] w fun e w' => SomePut e ∧ Below w.heap.size w w' := by
  have HM := Lib.hid (fun W hW => rmay_any 2 frm seq id i n text (.slice a ps.length cap) ps (by decide) W hW hsz)
  have h0 := Lib.hid (CkAt.start w (pkC 2 frm seq id i n text (.slice a ps.length cap)))
  have f0 : (0 : Int) ≤ frm := by omega
  have f1 : (frm : Int) < 4611686018427387904 := by omega
  have s0 : (0 : Int) ≤ seq := by omega
  have s1 : (seq : Int) < 4611686018427387904 := by omega
  have d0' : (0 : Int) ≤ id := by omega
  have d1' : (id : Int) < 4611686018427387904 := by omega
  have i0 : (0 : Int) ≤ i := by omega
  have i1 : (i : Int) < 4611686018427387904 := by omega
  have n0 : (0 : Int) ≤ n := by omega
  have n1' : (n : Int) < 4611686018427387904 := by omega
  have l0 : (0 : Int) ≤ ps.length := by omega
  have l1 : (ps.length : Int) < 4611686018427387904 := by omega
  simp only [pkC] at h0 HM ⊢
  have HEL := Lib.hid hel
  have HP32 := Lib.hid hp
  clear hel hp
  go_enter Tryz.func31, Tryz.ntmps31
  go_wp2_with fail
  refine (HM.out _ ⟨a, cap, rfl, HEL.out.mono h0.out.below⟩).mono ?_
  rintro e w1 ⟨⟨b, rfl⟩, hb1⟩
  have K1 := Lib.hid (h0.out.after hb1)
  clear hb1 HM h0
  cases b
  · go_wp2_with fail
    go_ret2
    exact ⟨⟨_, _, rfl⟩, K1.out.below⟩
  have q1 : (str (Sha.fixed 2 1)).size = 1 := by rw [str_size, Sha.fixed_length]
  have q2 : (str (Sha.fixed frm 4)).size = 4 := by rw [str_size, Sha.fixed_length]
  have q0 : (ByteArray.mk #[83, 76, 80, 49]).size = 4 := rfl
  have q3 : (str (Sha.fixed seq 4)).size = 4 := by rw [str_size, Sha.fixed_length]
  have q4 : (str (Sha.fixed id 4)).size = 4 := by rw [str_size, Sha.fixed_length]
  have q5 : (str (Sha.fixed i 2)).size = 2 := by rw [str_size, Sha.fixed_length]
  have q6 : (str (Sha.fixed n 2)).size = 2 := by rw [str_size, Sha.fixed_length]
  have q7 : (str (Sha.fixed ps.length 1)).size = 1 := by rw [str_size, Sha.fixed_length]
  go_wp2_with fail
  refine region_pure (by kernel_rfl) (by kernel_rfl) fun I ne f hfb hback => ?_
  have hKp := K1.out.p
  have hKl := lt_of_heap hKp
  have d0 : ∀ jx, (f jx).cell? ⟨w.heap.size, 0, none⟩ = some (.int .i64 2) := fun jx => by rw [(hfb jx).cell hKl, cell_of hKp]; rfl
  have d1 : ∀ jx, (f jx).cell? ⟨w.heap.size, 1, none⟩ = some (.int .i64 frm) := fun jx => by rw [(hfb jx).cell hKl, cell_of hKp]; rfl
  have hfb' := Lib.hid hfb
  clear hfb hKp hKl
  repeat (quiet_step ((go_at_call 59; exact pure_of hfb'.out hback (rfixed_i _ _ (by omega) (by omega) (by decide) (by decide) _))))
  refine wpQuiet_nil ?_
  intro ix
  have K1' := Lib.hid (K1.out.after (hfb'.out ix))
  generalize f ix = w3 at *
  clear hfb' d0 d1 hback
  have y0 := cell_of K1'.out.p 0
  have y1 := cell_of K1'.out.p 1
  have y2 := cell_of K1'.out.p 2
  have y3 := cell_of K1'.out.p 3
  have y4 := cell_of K1'.out.p 4
  have y5 := cell_of K1'.out.p 5
  have y6 := cell_of K1'.out.p 6
  have y7 := cell_of K1'.out.p 7
  simp at y0 y1 y2 y3 y4 y5 y6 y7
  have hh : (⟨#[83, 76, 80, 49]⟩ ++ str (Sha.fixed 2 1) ++ str (Sha.fixed frm 4)).size = 9 := by simp [ByteArray.size_append, q0, q1, q2]
  generalize ⟨#[83, 76, 80, 49]⟩ ++ str (Sha.fixed 2 1) ++ str (Sha.fixed frm 4) = S at *
  have p1 : ¬ 9223372036854775807 < 15 + text.size := by omega
  have p2 : ¬ 9223372036854775807 < 15 + text.size + 1 := by omega
  go_wp2_with fail
  clear y0 y1 y2 y3 y4 y5 y6 y7
  refine region_pure (by kernel_rfl) (by kernel_rfl) fun I ne f hfb hback => ?_
  have hKp := K1'.out.p
  have hKl := lt_of_heap hKp
  have d3 : ∀ jx, (f jx).cell? ⟨w.heap.size, 3, none⟩ = some (.int .i64 id) := fun jx => by rw [(hfb jx).cell hKl, cell_of hKp]; rfl
  have d4 : ∀ jx, (f jx).cell? ⟨w.heap.size, 4, none⟩ = some (.int .i64 i) := fun jx => by rw [(hfb jx).cell hKl, cell_of hKp]; rfl
  have d6 : ∀ jx, (f jx).cell? ⟨w.heap.size, 6, none⟩ = some (.string text) := fun jx => by rw [(hfb jx).cell hKl, cell_of hKp]; rfl
  have d7 : ∀ jx, (f jx).cell? ⟨w.heap.size, 7, none⟩ = some (.slice a ps.length cap) := fun jx => by rw [(hfb jx).cell hKl, cell_of hKp]; rfl
  have hfb' := Lib.hid hfb
  clear hfb hKp hKl
  repeat (quiet_step ((go_at_call 59; exact pure_of hfb'.out hback (rfixed_i _ _ (by omega) (by omega) (by decide) (by decide) _))))
  refine wpQuiet_nil ?_
  intro ix
  have K2 := Lib.hid (K1'.out.after (hfb'.out ix))
  generalize f ix = w3 at *
  clear hfb' d3 d4 d6 d7 hback
  have hT : (S ++ str (Sha.fixed id 4) ++ str (Sha.fixed i 2) ++ text ++ str (Sha.fixed ps.length 1)).size ≤ 16 + text.size := by simp only [ByteArray.size_append, hh, q4, q5, q7]; omega
  have HTT := Lib.hid hT
  clear hT
  generalize S ++ str (Sha.fixed id 4) ++ str (Sha.fixed i 2) ++ text ++ str (Sha.fixed ps.length 1) = T at *
  go_wp2_with fail
  have HE2 := Lib.hid (HEL.out.mono K2.out.below)
  go_loopw [4, 5] (fun v u wr => ∃ (t : Nat) (X : ByteArray), t ≤ ps.length ∧ u = .int .i64 t ∧ v = .string X ∧ X.size ≤ 16 + text.size + 32 * t ∧ wr = w3) (fun _ u _ => ps.length - (intOf u).toNat)
  case atStart => exact ⟨0, T, Nat.zero_le _, rfl, rfl, by have := HTT.out; omega, rfl⟩
  case round =>
    obtain ⟨t, X, ht', rfl, rfl, hX, rfl⟩ := hrel
    have y7 := cell_of K2.out.p 7
    simp at y7
    by_cases hlt : t < ps.length
    · have hlt' : (t : Int) < ps.length := by omega
      have t0 : (0 : Int) ≤ t := by omega
      obtain ⟨g1, o1, rfl, hg1, e1⟩ := HE2.out.str hlt
      have hx32 := HP32.out ps[t] (List.getElem_mem _)
      generalize ps[t] = x at *
      clear hg1
      have pX : ¬ 9223372036854775807 < X.size + x.size := by omega
      have hX2 : Hid ((X ++ x).size ≤ 16 + text.size + 32 * (t + 1)) := Lib.hid (by rw [ByteArray.size_append]; omega)
      go_wp2
      go_roundw
      case rel => exact ⟨t + 1, X ++ x, by omega, by go_num, rfl, hX2.out, by simp⟩
      case measure => simp [intOf]; omega
    · have hlt' : ¬ (t : Int) < ps.length := by omega
      go_wp2
      go_ret2
      exact ⟨⟨_, _, rfl⟩, K2.out.below⟩
end Go.Proofs.YtpmgackgcefalaaGreat
namespace Go.Proofs.YtpmgackgcefalaaGreat
open Go.RowKit
theorem fixed_num : ∀ (l : List UInt8), Sha.fixed (Sha.num l : Nat) l.length = l := by
  intro l
  have key : ∀ (r : List UInt8), Sha.fixed (Sha.num r.reverse : Nat) r.length = r.reverse := by
    intro r
    induction r with
    | nil => rfl
    | cons c r ih =>
      rw [List.reverse_cons, Sha.num_snoc, List.length_cons, Sha.fixed]
      have hc := c.toNat_lt
      have e1 : (((Sha.num r.reverse * 256 + c.toNat : Nat) : Int) / 256) = (Sha.num r.reverse : Nat) := by omega
      have e2 : (((Sha.num r.reverse * 256 + c.toNat : Nat) : Int) % 256).toNat = c.toNat := by omega
      rw [e1, e2, ih]
      simp
  have := key l.reverse
  rw [List.reverse_reverse, List.length_reverse] at this
  exact this
theorem text_split (s : ByteArray) (a b c : Nat) (h1 : a ≤ b) (h2 : b ≤ c) (h3 : c ≤ s.size) : s.extract a b ++ s.extract b c = s.extract a c := by
  rw [ByteArray.extract_append_extract]
  congr 1 <;> omega
theorem str_eq {l : List UInt8} {x : ByteArray} (h : x.data.toList = l) : str l = x := by
  apply ByteArray.ext
  apply Array.ext'
  rw [h]; rfl
theorem kind_one (s : ByteArray) (h9 : 9 ≤ s.size) : rdNum (s.extract 4 s.size) 1 = s[4].toNat ∧ offerFrom s = Sha.num (s.extract 5 9).data.toList := by
  constructor
  · unfold rdNum
    rw [if_pos (by simp; omega)]
    have e : (s.extract 4 s.size).data.toList.take 1 = [s[4]] := by
      rw [← num_take _ 1 (by simp; omega), ByteArray.extract_extract]
      apply List.ext_getElem
      · simp; omega
      · intro i h1 h2
        have : i = 0 := by simp at h2; omega
        subst this
        simp
        rfl
    rw [e]
    simp [Sha.num]
  · unfold offerFrom
    rw [← num_take _ 4 (by simp; omega), ByteArray.extract_extract]
    congr 4
    omega
theorem head_split (s : ByteArray) (h9 : 9 ≤ s.size) (hK : s[4].toNat = 1) : headB 1 (Sha.num (s.extract 5 9).data.toList) ++ s.extract 9 s.size = s ↔ isSLP s = true := by
  have e1 : str (Sha.fixed (1 : Nat) 1) = s.extract 4 5 := by
    refine str_eq ?_
    apply List.ext_getElem
    · simp [Sha.fixed]; omega
    · intro i h1 h2
      have : i = 0 := by simp [Sha.fixed] at h2; omega
      subst this
      have : s[4] = 1 := by
        apply UInt8.toNat_inj.1
        rw [hK]; rfl
      simp [Sha.fixed]
      exact this
  have e2 : str (Sha.fixed (Sha.num (s.extract 5 9).data.toList : Nat) 4) = s.extract 5 9 := by
    refine str_eq ?_
    have := fixed_num (s.extract 5 9).data.toList
    have hl : (s.extract 5 9).data.toList.length = 4 := by
      rw [Array.length_toList]
      show (s.extract 5 9).size = 4
      simp; omega
    rw [hl] at this
    exact this.symm
  have e3 : ((s.extract 0 4 ++ s.extract 4 5) ++ s.extract 5 9) ++ s.extract 9 s.size = s := by
    rw [text_split s 0 4 5 (by omega) (by omega) (by omega), text_split s 0 5 9 (by omega) (by omega) (by omega), text_split s 0 9 s.size (by omega) (by omega) (Nat.le_refl _)]
    exact extract_all s
  unfold headB isSLP
  rw [e1, e2, decide_eq_true_eq]
  constructor
  · intro h
    rw [ByteArray.append_assoc, ByteArray.append_assoc] at h
    have h2 := congrArg (fun x : ByteArray => x.extract 0 4) h
    have h3 : ∀ X : ByteArray, ((⟨#[83, 76, 80, 49]⟩ : ByteArray) ++ X).extract 0 4 = ⟨#[83, 76, 80, 49]⟩ := by
      intro X
      apply ByteArray.ext
      apply Array.ext'
      rw [ByteArray.data_extract, Array.toList_extract, ByteArray.data_append]
      simp
    exact h2.symm.trans (h3 _)
  · intro h
    rw [← h]
    exact e3
end Go.Proofs.YtpmgackgcefalaaGreat
namespace Go.Proofs.YtpmgackgcefalaaGreat
open Go.RowKit
theorem rput_any (kind frm seq id i n : Nat) (text : ByteArray) (sl : Value) (ps : List ByteArray) (w : World) (hk1 : kind ≠ 1) (hk : kind < 4611686018427387904) (hsl : SliceOf strS w sl ps) (hsz : ps.length ≤ 140737488355327)
    (hf : frm < 4611686018427387904) (hs : seq < 4611686018427387904) (hd : id < 4611686018427387904) (hi : i < 4611686018427387904) (hn : n < 4611686018427387904) (ht : text.size ≤ 140737488355327) (hp : ∀ x ∈ ps, x.size ≤ 32) :
    Calls Tryz.prog 31 #[.agg (pkC kind frm seq id i n text sl)] w fun e w' => SomePut e ∧ Below w.heap.size w w' := by
  obtain ⟨a, cap, rfl, hel⟩ := hsl
  by_cases h2 : kind = 2
  · subst h2; exact rput_two frm seq id i n text a cap ps w hel hsz hf hs hd hi hn ht hp
  by_cases h3 : kind = 3
  · subst h3; exact rput_three frm seq id i n text a cap ps w hel hsz hf hs hd hi hn ht hp
  exact rput_other kind hk1 h2 h3 hk frm seq id i n text a cap ps w hel hsz hf hs hd hi hn ht hp
structure TkAt (w W : World) (g : Nat) (C : Array Value) : Prop where
  below : Below w.heap.size w W
  z : W.heap[w.heap.size]? = some (.cells zeroP 66 (0, 0))
  lt : w.heap.size < g
  p : W.heap[g]? = some (.cells C 66 (0, 0))
theorem TkAt.after {w W w1 : World} {g : Nat} {C : Array Value} (t : TkAt w W g C) (hb : Below W.heap.size W w1) : TkAt w w1 g C := ⟨t.below.trans (hb.mono t.below.size), heap_below t.z hb, t.lt, heap_below t.p hb⟩
structure ZpAt (w W : World) : Prop where
  below : Below w.heap.size w W
  z : W.heap[w.heap.size]? = some (.cells zeroP 66 (0, 0))
theorem ZpAt.start (w : World) : ZpAt w (w.alloc (.cells zeroP 66 (0, 0))) := ⟨(Below.refl _ _).alloc (Nat.le_refl _) _, heap_alloc_new _ _⟩
theorem ZpAt.after {w W w1 : World} (t : ZpAt w W) (hb : Below W.heap.size W w1) : ZpAt w w1 := ⟨t.below.trans (hb.mono t.below.size), heap_below t.z hb⟩
theorem ZpAt.alloc {w W : World} (t : ZpAt w W) (o : Obj) : ZpAt w (W.alloc o) := ⟨t.below.alloc t.below.size _, heap_alloc_old t.z⟩
theorem ZpAt.drew {w W : World} (t : ZpAt w W) : ZpAt w W.drew := t.after ((Same.drew _).below _)
theorem ZpAt.rows {w W : World} {g : Nat} (t : ZpAt w W) (hl : w.heap.size < g) (v0 v1 v2 v3 v4 v5 v6 v7 : Value) : ZpAt w ((((((((W.setCell ⟨g, 0, none⟩ v0).setCell ⟨g, 1, none⟩ v1).setCell ⟨g, 2, none⟩ v2).setCell ⟨g, 3, none⟩ v3).setCell ⟨g, 4, none⟩ v4).setCell ⟨g, 5, none⟩ v5).setCell ⟨g, 6, none⟩ v6).setCell ⟨g, 7, none⟩ v7) := by
  have h1 := below_rowSet (Nat.le_of_lt hl) [v0, v1, v2, v3, v4, v5, v6, v7] 0 _ t.below
  have h2 := heap_rowSet_ne (show w.heap.size ≠ g by omega) [v0, v1, v2, v3, v4, v5, v6, v7] 0 W
  simp only [rowSet, Nat.zero_add, Nat.reduceAdd] at h1 h2
  exact ⟨h1, h2.trans t.z⟩
theorem BodyOf.mono {kind frm B B' : Nat} {s : ByteArray} {W w1 : World} {C : Array Value} (t : BodyOf kind frm s B W C) (hb : Below W.heap.size W w1) (hB : B' ≤ B) : BodyOf kind frm s B' w1 C := by
  rcases t with ⟨rfl, rfl⟩ | ⟨h1, seq, id, i, n, text, sl, ps, rfl, ho, h⟩
  · exact .inl ⟨rfl, rfl⟩
  · exact .inr ⟨h1, seq, id, i, n, text, sl, ps, rfl, ownsRow_base (ownsRow_below ho hb) hB, h⟩
theorem TkAt.ofAlloc {w W : World} (t : ZpAt w W) (C : Array Value) : TkAt w (W.alloc (.cells C 66 (0, 0))) W.heap.size C :=
  ⟨t.below.alloc t.below.size _, heap_alloc_old t.z, lt_of_heap t.z, heap_alloc_new _ _⟩
theorem TkAt.ofRows {w W : World} {g : Nat} {Z : Array Value} (t : ZpAt w W) (hA : W.heap[g]? = some (.cells Z 66 (0, 0))) (hZ : Z.size = 8) (hl : w.heap.size < g) (v0 v1 v2 v3 v4 v5 v6 v7 : Value) : TkAt w ((((((((W.setCell ⟨g, 0, none⟩ v0).setCell ⟨g, 1, none⟩ v1).setCell ⟨g, 2, none⟩ v2).setCell ⟨g, 3, none⟩ v3).setCell ⟨g, 4, none⟩ v4).setCell ⟨g, 5, none⟩ v5).setCell ⟨g, 6, none⟩ v6).setCell ⟨g, 7, none⟩ v7) g #[v0, v1, v2, v3, v4, v5, v6, v7] := by
  have h1 := t.rows hl v0 v1 v2 v3 v4 v5 v6 v7
  have h2 := heap_rowSet hA [v0, v1, v2, v3, v4, v5, v6, v7] (by simpa using hZ)
  simp only [rowSet, Nat.zero_add, Nat.reduceAdd] at h2
  exact ⟨h1.below, h1.z, hl, h2⟩
theorem BodyOf.rows {kind frm B g : Nat} {s : ByteArray} {W : World} {C Z : Array Value} (t : BodyOf kind frm s B W C) (hA : W.heap[g]? = some (.cells Z 66 (0, 0))) (v0 v1 v2 v3 v4 v5 v6 v7 : Value) : BodyOf kind frm s B ((((((((W.setCell ⟨g, 0, none⟩ v0).setCell ⟨g, 1, none⟩ v1).setCell ⟨g, 2, none⟩ v2).setCell ⟨g, 3, none⟩ v3).setCell ⟨g, 4, none⟩ v4).setCell ⟨g, 5, none⟩ v5).setCell ⟨g, 6, none⟩ v6).setCell ⟨g, 7, none⟩ v7) C := by
  rcases t with ⟨rfl, rfl⟩ | ⟨h1, seq, id, i, n, text, sl, ps, rfl, ho, h⟩
  · exact .inl ⟨rfl, rfl⟩
  · have h2 := ownsRow_rowSet (ownBlock_ne ho hA (by decide)) [v0, v1, v2, v3, v4, v5, v6, v7] 0 _ ho
    simp only [rowSet, Nat.zero_add, Nat.reduceAdd] at h2
    exact .inr ⟨h1, seq, id, i, n, text, sl, ps, rfl, h2, h⟩
theorem BodyOf.base {kind frm B B' : Nat} {s : ByteArray} {W : World} {C : Array Value} (t : BodyOf kind frm s B W C) (hB : B' ≤ B) : BodyOf kind frm s B' W C := by
  rcases t with ⟨rfl, rfl⟩ | ⟨h1, seq, id, i, n, text, sl, ps, rfl, ho, h⟩
  · exact .inl ⟨rfl, rfl⟩
  · exact .inr ⟨h1, seq, id, i, n, text, sl, ps, rfl, ownsRow_base ho hB, h⟩
theorem BodyOf.form {kind frm B : Nat} {s : ByteArray} {W : World} {C : Array Value} (t : BodyOf kind frm s B W C) : ∃ (seq id i n : Nat) (text : ByteArray) (a : Option Addr) (len cap : Nat), C = pkC kind frm seq id i n text (.slice a len cap) := by
  rcases t with ⟨rfl, rfl⟩ | ⟨h1, seq, id, i, n, text, sl, ps, rfl, ho, h⟩
  · exact ⟨0, 0, 0, 0, s, none, 0, 0, rfl⟩
  · obtain ⟨a, cap, rfl, -⟩ := SliceOf.strs ho
    exact ⟨seq, id, i, n, text, a, _, cap, rfl⟩
def RTake (s : ByteArray) (e : Ending) : Prop := (offerOk s → e = .returned (offerV s)) ∧ (¬ offerOk s → NotOffer e)
theorem not_offer_zero : NotOffer (.returned (.tuple #[.agg zeroP, .int .i64 2])) := ⟨0, 0, 0, 0, 0, 0, ⟨#[]⟩, none, 0, 0, 2, rfl, .inl (by decide)⟩
set_option maxRecDepth 100000 in
set_option maxHeartbeats 2000000 in
theorem rptake_short (s : ByteArray) (h : s.size < 9) (w : World) :
    Calls Tryz.prog 37 #[.string s] w fun e w' => e = .returned (.tuple #[.agg zeroP, .int .i64 2]) ∧ Below w.heap.size w w' := by
  have h' : (s.size : Int) < 9 := by omega
  go_enter Tryz.func37, Tryz.ntmps37
  go_wp2_with fail
  refine bodyPost_ret (v := .tuple #[.agg zeroP, .int .i64 2]) ?r ?d ?fin
  case fin => exact ⟨rfl, (Below.refl _ _).alloc (Nat.le_refl _) _⟩
  case d => rfl
  case r => exact results_cell_val Tryz.results37 _ _ w.heap.size _ _ (0, 0) _ _ (by simp) (by simp) (heap_alloc_new _ _) Tryz.underlying66 rfl (by kernel_rfl)
set_option maxRecDepth 100000 in
set_option maxHeartbeats 4000000 in
theorem rptake_long (s : ByteArray) (h : 9 ≤ s.size) (hsz : s.size ≤ 140737488355) (w : World) :
    Calls Tryz.prog 37 #[.string s] w fun e w' => RTake s e ∧ Below w.heap.size w w' := by
  have h' : (9 : Int) ≤ s.size := by omega
  have h4 : 4 < s.size := by omega
  have h4' : (4 : Int) < s.size := by omega
  have HN := Lib.hid (rnumb_any (s.extract 5 9) (by simp; omega))
  have HB := Lib.hid (fun W => body_any s[4].toNat (Sha.num (s.extract 5 9).data.toList) (s.extract 9 s.size) (by simp; omega) W)
  have HZ := Lib.hid (ZpAt.start w)
  simp only [zeroP, pkC] at HZ
  go_enter Tryz.func37, Tryz.ntmps37
  go_upto_region 3 with fail
  generalize w.alloc (.cells #[.int .i64 0, .int .i64 0, .int .i64 0, .int .i64 0, .int .i64 0, .int .i64 0, .string ⟨#[]⟩, .slice none 0 0] 66 (0, 0)) = W at *
  have HZ : Hid (ZpAt w W) := HZ
  have hk8 := s[4].toNat_lt
  have hk9 : (s[4].toNat : Int) < 256 := by omega
  have hk0 : (0 : Int) ≤ s[4].toNat := by omega
  obtain ⟨iw1, iw2, -⟩ := idx (s[4].toNat : Int) s[4].toNat rfl (by omega)
  generalize hfr : Sha.num (s.extract 5 9).data.toList = frm at *
  go_cut [4] from 11 to 19 (fun s4 wx => ∃ (g : Nat) (C : Array Value), s4 = .pointer (some ⟨g, 0, none⟩) ∧ TkAt w wx g C ∧ BodyOf s[4].toNat frm (s.extract 9 s.size) w.heap.size wx C)
  case first =>
    have hz := HZ.out
    have hWl := hz.below.size
    have hWz := lt_of_heap hz.z
    go_region_held3 (fun w' => ZpAt w w') (first | with_reducible assumption | with_reducible exact ZpAt.alloc (by assumption) _ | with_reducible exact ZpAt.drew (by assumption) | with_reducible exact ZpAt.drew (ZpAt.alloc (by assumption) _) | with_reducible exact ZpAt.rows (by assumption) hWz _ _ _ _ _ _ _ _ | with_reducible exact ZpAt.drew (ZpAt.rows (by assumption) hWz _ _ _ _ _ _ _ _))
     ((first
      | (go_at_call 69; refine (HN.out _).mono ?_; rintro e w2 ⟨rfl, rfl⟩)
      | (go_at_call 68; refine (HB.out _).mono ?_; rintro e w2 ⟨⟨C, rfl, hC⟩, hb2⟩; obtain ⟨seq, id, i, n, tx, a, len, cap, rfl⟩ := hC.form; have HC := Lib.hid hC; clear hC; simp only [pkC]; have hz2 := ZpAt.after (w := w) (by with_reducible assumption) hb2; have hA : w2.heap[W.heap.size]? = some (.cells #[.int .i64 0, .int .i64 0, .int .i64 0, .int .i64 0, .int .i64 0, .int .i64 0, .string ⟨#[]⟩, .slice none 0 0] 66 (0, 0)) := heap_below ((Same.drew _).at (heap_alloc_new _ _)) hb2; have x0 := cell_of hA 0; have u0 := frozen_of hA 0; have x1 := cell_of hA 1; have u1 := frozen_of hA 1; have x2 := cell_of hA 2; have u2 := frozen_of hA 2; have x3 := cell_of hA 3; have u3 := frozen_of hA 3; have x4 := cell_of hA 4; have u4 := frozen_of hA 4; have x5 := cell_of hA 5; have u5 := frozen_of hA 5; have x6 := cell_of hA 6; have u6 := frozen_of hA 6; have x7 := cell_of hA 7; have u7 := frozen_of hA 7; simp at x0 x1 x2 x3 x4 x5 x6 x7; have HA := Lib.hid hA; clear hA)
      | (go_at_call 68; refine (HB.out _).mono ?_; rintro e w2 ⟨⟨C, rfl, hC⟩, hb2⟩; obtain ⟨seq, id, i, n, tx, a, len, cap, rfl⟩ := hC.form; have HC := Lib.hid hC; clear hC; simp only [pkC]; have hz2 := ZpAt.after (w := w) (by with_reducible assumption) hb2)))
    all_goals (go_wp2_with fail; go_meet)
    all_goals first
      | (have hbs := HC.out.base hWl; exact ⟨W.heap.size, _, rfl, TkAt.ofRows hz2 HA.out rfl hWz _ _ _ _ _ _ _ _, hbs.rows HA.out _ _ _ _ _ _ _ _⟩)
      | (have hbs := HC.out.base (Nat.le_trans hWl (by simp)); exact ⟨W.heap.size, _, rfl, TkAt.ofRows hz2 HA.out rfl hWz _ _ _ _ _ _ _ _, hbs.rows HA.out _ _ _ _ _ _ _ _⟩)
      | (have hbs := HC.out.base hWl; exact ⟨_, _, rfl, TkAt.ofAlloc hz2 _, hbs.mono ((Below.refl _ _).alloc (Nat.le_refl _) _) (Nat.le_refl _)⟩)
      | (have hbs := HC.out.base hWl; exact ⟨_, _, rfl, (TkAt.ofAlloc hz2 _).after ((Same.drew _).below _), (hbs.mono ((Below.refl _ _).alloc (Nat.le_refl _) _) (Nat.le_refl _)).mono ((Same.drew _).below _) (Nat.le_refl _)⟩)
      | trace_state
  case rest =>
    obtain ⟨g, C, rfl, ht, hbo⟩ := hcut
    have HT := Lib.hid ht
    have HBO := Lib.hid hbo
    clear ht hbo HN HB HZ iw1 iw2
    have HF := Lib.hid hfr
    have hf62 : frm < 4611686018427387904 := by rw [← hfr]; exact num_bound _ (by simp; omega)
    clear hfr
    rcases HBO.out with ⟨hk1, rfl⟩ | ⟨hk1, seq, id, i, n, tx, sl, ps, rfl, ho, ⟨b1, b2, b3, b4⟩, htx, hps, hp32⟩
    · have hrd : rdNum (s.extract 4 s.size) 1 = 1 := by rw [(kind_one s h).1, hk1]
      have hoff : Hid (offerFrom s = frm) := Lib.hid (by rw [(kind_one s h).2]; exact HF.out)
      have hspl : Hid (headB 1 frm ++ s.extract 9 s.size = s ↔ isSLP s = true) := Lib.hid (by rw [← HF.out]; exact head_split s h hk1)
      have htxs : (s.extract 9 s.size).size ≤ 140737488355327 := by simp; omega
      have hov : Hid (offerOk s → offerV s = if offerErr frm (s.extract 9 s.size) = 0 then .tuple #[.agg (pkC 1 frm 0 0 0 0 (s.extract 9 s.size) (.slice none 0 0)), .int .i64 0] else .tuple #[.agg zeroP, .int .i64 2]) := Lib.hid (fun _ => by unfold offerV; rw [hoff.out])
      have hmay : Hid (offerMay frm (s.extract 9 s.size) = true ↔ offerErr frm (s.extract 9 s.size) = 0) := Lib.hid (by
        unfold offerMay offerErr
        rw [decide_eq_true_eq]
        constructor
        · intro x; rw [if_pos x]
        · intro x; by_cases y : numOk frm 1 = true ∧ htakeErr (s.extract 9 s.size) = 0
          · exact y
          · rw [if_neg y] at x; exact absurd x (by decide))
      have HPut := Lib.hid (fun W => rput_offer frm (s.extract 9 s.size) hf62 htxs W)
      have hok : Hid (isSLP s = true → offerOk s) := Lib.hid (fun x => ⟨x, h, hrd⟩)
      have hno : Hid (¬ isSLP s = true → ¬ offerOk s) := Lib.hid (fun x y => x y.1)
      clear hrd htxs HF hk1 HBO
      unfold rputV at HPut
      generalize s.extract 9 s.size = tx at *
      generalize offerMay frm tx = M at *
      simp only [pkC] at HPut
      have hp0 := HT.out.p
      have hz0 := HT.out.z
      have y0 := cell_of hp0 0
      have y1 := cell_of hp0 1
      have y2 := cell_of hp0 2
      have y3 := cell_of hp0 3
      have y4 := cell_of hp0 4
      have y5 := cell_of hp0 5
      have y6 := cell_of hp0 6
      have y7 := cell_of hp0 7
      have z0 := cell_of hz0 0
      have z1 := cell_of hz0 1
      have z2 := cell_of hz0 2
      have z3 := cell_of hz0 3
      have z4 := cell_of hz0 4
      have z5 := cell_of hz0 5
      have z6 := cell_of hz0 6
      have z7 := cell_of hz0 7
      have v0 := frozen_of hz0 0
      have v1 := frozen_of hz0 1
      have v2 := frozen_of hz0 2
      have v3 := frozen_of hz0 3
      have v4 := frozen_of hz0 4
      have v5 := frozen_of hz0 5
      have v6 := frozen_of hz0 6
      have v7 := frozen_of hz0 7
      simp [pkC, zeroP] at y0 y1 y2 y3 y4 y5 y6 y7 z0 z1 z2 z3 z4 z5 z6 z7
      clear hp0 hz0
      go_wp2_with fail
      refine (HPut.out _).mono ?_
      rintro e w5 ⟨rfl, hb5⟩
      have HT5 := Lib.hid (HT.out.after hb5)
      clear hb5 HT y0 y1 y2 y3 y4 y5 y6 y7 z0 z1 z2 z3 z4 z5 z6 z7 v0 v1 v2 v3 v4 v5 v6 v7 HPut
      have hp0 := HT5.out.p
      have hz0 := HT5.out.z
      have y0 := cell_of hp0 0
      have y1 := cell_of hp0 1
      have y2 := cell_of hp0 2
      have y3 := cell_of hp0 3
      have y4 := cell_of hp0 4
      have y5 := cell_of hp0 5
      have y6 := cell_of hp0 6
      have y7 := cell_of hp0 7
      have z0 := cell_of hz0 0
      have z1 := cell_of hz0 1
      have z2 := cell_of hz0 2
      have z3 := cell_of hz0 3
      have z4 := cell_of hz0 4
      have z5 := cell_of hz0 5
      have z6 := cell_of hz0 6
      have z7 := cell_of hz0 7
      have v0 := frozen_of hz0 0
      have v1 := frozen_of hz0 1
      have v2 := frozen_of hz0 2
      have v3 := frozen_of hz0 3
      have v4 := frozen_of hz0 4
      have v5 := frozen_of hz0 5
      have v6 := frozen_of hz0 6
      have v7 := frozen_of hz0 7
      simp [pkC, zeroP] at y0 y1 y2 y3 y4 y5 y6 y7 z0 z1 z2 z3 z4 z5 z6 z7
      clear hp0 hz0
      cases M
      case false =>
        rw [if_neg (by decide)]
        have hne : ¬ offerErr frm tx = 0 := fun x => absurd (hmay.out.2 x) (by decide)
        have hV : Hid (RTake s (.returned (.tuple #[.agg zeroP, .int .i64 2]))) := Lib.hid ⟨fun x => by rw [hov.out x, if_neg hne], fun _ => not_offer_zero⟩
        clear hne
        go_wp2_with fail
        have R := row8 (Nat.le_refl _) HT5.out.below HT5.out.z rfl (.int .i64 0) (.int .i64 0) (.int .i64 0) (.int .i64 0) (.int .i64 0) (.int .i64 0) (.string ⟨#[]⟩) (.slice none 0 0)
        refine bodyPost_ret (v := .tuple #[.agg zeroP, .int .i64 2]) ?r ?d ?fin
        case fin => exact ⟨hV.out, R.1⟩
        case d => rfl
        case r => exact results_cell_val Tryz.results37 _ _ w.heap.size _ _ (0, 0) _ _ (by simp) (by simp) R.2 Tryz.underlying66 rfl (by kernel_rfl)
      case true =>
        rw [if_pos rfl]
        have he : offerErr frm tx = 0 := hmay.out.1 rfl
        cases hs : isSLP s
        case false =>
          have hne : ¬ headB 1 frm ++ tx = s := fun x => by rw [hspl.out.1 x] at hs; cases hs
          have hb : ((headB 1 frm ++ tx).toList == s.toList) = false := by rw [text_beq]; exact decide_eq_false hne
          have hV : Hid (RTake s (.returned (.tuple #[.agg zeroP, .int .i64 2]))) := Lib.hid ⟨fun x => absurd x (hno.out (by rw [hs]; decide)), fun _ => not_offer_zero⟩
          clear hne he
          generalize headB 1 frm ++ tx = t at *
          go_wp2_with fail
          have R := row8 (Nat.le_refl _) HT5.out.below HT5.out.z rfl (.int .i64 0) (.int .i64 0) (.int .i64 0) (.int .i64 0) (.int .i64 0) (.int .i64 0) (.string ⟨#[]⟩) (.slice none 0 0)
          refine bodyPost_ret (v := .tuple #[.agg zeroP, .int .i64 2]) ?r ?d ?fin
          case fin => exact ⟨hV.out, R.1⟩
          case d => rfl
          case r => exact results_cell_val Tryz.results37 _ _ w.heap.size _ _ (0, 0) _ _ (by simp) (by simp) R.2 Tryz.underlying66 rfl (by kernel_rfl)
        case true =>
          have heq : headB 1 frm ++ tx = s := hspl.out.2 hs
          have hV : Hid (RTake s (.returned (.tuple #[.agg (pkC 1 frm 0 0 0 0 tx (.slice none 0 0)), .int .i64 0]))) := Lib.hid ⟨fun x => by rw [hov.out x, if_pos he], fun x => absurd (hok.out hs) x⟩
          rw [heq]
          clear heq he
          go_wp2_with fail
          have R := row8 (Nat.le_refl _) HT5.out.below HT5.out.z rfl (.int .i64 1) (.int .i64 frm) (.int .i64 0) (.int .i64 0) (.int .i64 0) (.int .i64 0) (.string tx) (.slice none 0 0)
          refine bodyPost_ret (v := .tuple #[.agg (pkC 1 frm 0 0 0 0 tx (.slice none 0 0)), .int .i64 0]) ?r ?d ?fin
          case fin => exact ⟨hV.out, R.1⟩
          case d => rfl
          case r => exact results_cell_val Tryz.results37 _ _ w.heap.size _ _ (0, 0) _ _ (by simp) (by simp) R.2 Tryz.underlying66 rfl (by kernel_rfl)
    · have hno : Hid (¬ offerOk s) := Lib.hid (fun x => hk1 (by rw [← (kind_one s h).1]; exact x.2.2))
      have hV : Hid (RTake s (.returned (.tuple #[.agg zeroP, .int .i64 2]))) := Lib.hid ⟨fun x => absurd x hno.out, fun _ => not_offer_zero⟩
      have hsz9 : (s.extract 9 s.size).size ≤ s.size := by simp
      obtain ⟨a, cap, rfl, hel⟩ := SliceOf.strs ho
      have hV2 : Hid (RTake s (.returned (.tuple #[.agg (pkC s[4].toNat frm seq id i n tx (.slice a ps.length cap)), .int .i64 0]))) := Lib.hid ⟨fun x => absurd x hno.out, fun _ => ⟨_, _, _, _, _, _, _, _, _, _, _, rfl, .inr (by omega)⟩⟩
      have HPut := Lib.hid (fun W hW => rput_any s[4].toNat frm seq id i n tx (.slice a ps.length cap) ps W hk1 (by omega) hW (by omega) hf62 b1 b2 b3 b4 (by omega) hp32)
      have HEL := Lib.hid hel
      clear hel ho hp32 hno HF HBO hsz9
      generalize s[4].toNat = K at *
      simp only [pkC] at HPut
      have hp0 := HT.out.p
      have hz0 := HT.out.z
      have y0 := cell_of hp0 0
      have y1 := cell_of hp0 1
      have y2 := cell_of hp0 2
      have y3 := cell_of hp0 3
      have y4 := cell_of hp0 4
      have y5 := cell_of hp0 5
      have y6 := cell_of hp0 6
      have y7 := cell_of hp0 7
      have z0 := cell_of hz0 0
      have z1 := cell_of hz0 1
      have z2 := cell_of hz0 2
      have z3 := cell_of hz0 3
      have z4 := cell_of hz0 4
      have z5 := cell_of hz0 5
      have z6 := cell_of hz0 6
      have z7 := cell_of hz0 7
      have v0 := frozen_of hz0 0
      have v1 := frozen_of hz0 1
      have v2 := frozen_of hz0 2
      have v3 := frozen_of hz0 3
      have v4 := frozen_of hz0 4
      have v5 := frozen_of hz0 5
      have v6 := frozen_of hz0 6
      have v7 := frozen_of hz0 7
      simp [pkC, zeroP] at y0 y1 y2 y3 y4 y5 y6 y7 z0 z1 z2 z3 z4 z5 z6 z7
      clear hp0 hz0
      go_wp2_with fail
      refine (HPut.out _ ⟨a, cap, rfl, HEL.out⟩).mono ?_
      rintro e w5 ⟨⟨t, z, rfl⟩, hb5⟩
      have HT5 := Lib.hid (HT.out.after hb5)
      clear hb5 HT y0 y1 y2 y3 y4 y5 y6 y7 z0 z1 z2 z3 z4 z5 z6 z7 v0 v1 v2 v3 v4 v5 v6 v7 HPut
      have hp0 := HT5.out.p
      have hz0 := HT5.out.z
      have y0 := cell_of hp0 0
      have y1 := cell_of hp0 1
      have y2 := cell_of hp0 2
      have y3 := cell_of hp0 3
      have y4 := cell_of hp0 4
      have y5 := cell_of hp0 5
      have y6 := cell_of hp0 6
      have y7 := cell_of hp0 7
      have z0 := cell_of hz0 0
      have z1 := cell_of hz0 1
      have z2 := cell_of hz0 2
      have z3 := cell_of hz0 3
      have z4 := cell_of hz0 4
      have z5 := cell_of hz0 5
      have z6 := cell_of hz0 6
      have z7 := cell_of hz0 7
      have v0 := frozen_of hz0 0
      have v1 := frozen_of hz0 1
      have v2 := frozen_of hz0 2
      have v3 := frozen_of hz0 3
      have v4 := frozen_of hz0 4
      have v5 := frozen_of hz0 5
      have v6 := frozen_of hz0 6
      have v7 := frozen_of hz0 7
      simp [pkC, zeroP] at y0 y1 y2 y3 y4 y5 y6 y7 z0 z1 z2 z3 z4 z5 z6 z7
      clear hp0 hz0
      by_cases hz : z = 0
      case neg =>
        have hzb : (z != 0) = true := by simp [bne, hz]
        go_wp2_with fail
        have R := row8 (Nat.le_refl _) HT5.out.below HT5.out.z rfl (.int .i64 0) (.int .i64 0) (.int .i64 0) (.int .i64 0) (.int .i64 0) (.int .i64 0) (.string ⟨#[]⟩) (.slice none 0 0)
        refine bodyPost_ret (v := .tuple #[.agg zeroP, .int .i64 2]) ?r ?d ?fin
        case fin => exact ⟨hV.out, R.1⟩
        case d => rfl
        case r => exact results_cell_val Tryz.results37 _ _ w.heap.size _ _ (0, 0) _ _ (by simp) (by simp) R.2 Tryz.underlying66 rfl (by kernel_rfl)
      subst hz
      by_cases hts : t = s
      case neg =>
        have hb : (t.toList == s.toList) = false := by rw [text_beq]; exact decide_eq_false hts
        clear hts
        go_wp2_with fail
        have R := row8 (Nat.le_refl _) HT5.out.below HT5.out.z rfl (.int .i64 0) (.int .i64 0) (.int .i64 0) (.int .i64 0) (.int .i64 0) (.int .i64 0) (.string ⟨#[]⟩) (.slice none 0 0)
        refine bodyPost_ret (v := .tuple #[.agg zeroP, .int .i64 2]) ?r ?d ?fin
        case fin => exact ⟨hV.out, R.1⟩
        case d => rfl
        case r => exact results_cell_val Tryz.results37 _ _ w.heap.size _ _ (0, 0) _ _ (by simp) (by simp) R.2 Tryz.underlying66 rfl (by kernel_rfl)
      subst hts
      go_wp2_with fail
      have R := row8 (Nat.le_refl _) HT5.out.below HT5.out.z rfl (.int .i64 K) (.int .i64 frm) (.int .i64 seq) (.int .i64 id) (.int .i64 i) (.int .i64 n) (.string tx) (.slice a ps.length cap)
      refine bodyPost_ret (v := .tuple #[.agg (pkC K frm seq id i n tx (.slice a ps.length cap)), .int .i64 0]) ?r ?d ?fin
      case fin => exact ⟨hV2.out, R.1⟩
      case d => rfl
      case r => exact results_cell_val Tryz.results37 _ _ w.heap.size _ _ (0, 0) _ _ (by simp) (by simp) R.2 Tryz.underlying66 rfl (by kernel_rfl)
theorem rptake_any (s : ByteArray) (hsz : s.size ≤ 140737488355) (w : World) :
    Calls Tryz.prog 37 #[.string s] w fun e w' => RTake s e ∧ Below w.heap.size w w' := by
  by_cases h : 9 ≤ s.size
  · exact rptake_long s h hsz w
  · refine (rptake_short s (by omega) w).mono ?_
    rintro e w' ⟨rfl, hb⟩
    exact ⟨⟨fun x => absurd x.2.1 h, fun _ => not_offer_zero⟩, hb⟩
end Go.Proofs.YtpmgackgcefalaaGreat
namespace Go.Proofs.YtpmgackgcefalaaGreat
open Go.RowKit
set_option maxRecDepth 100000 in
set_option maxHeartbeats 4000000 in
theorem roffered_none (s : ByteArray) (h : ¬ offerOk s) (hsz : s.size ≤ 140737488355) (w : World) :
    Calls Tryz.prog 18 #[.string s] w fun e w' => e = .returned (optHead none) ∧ Below w.heap.size w w' := by
  have HT := Lib.hid (fun W => (rptake_any s hsz W).mono (fun e w' x => (⟨x.1.2 h, x.2⟩ : NotOffer e ∧ Below W.heap.size W w')))
  have HO := Lib.hid (OfAt.start w)
  clear h hsz
  simp only [optHead, zeroH]
  simp only [zeroH] at HO
  go_enter Tryz.func18, Tryz.ntmps18
  go_wp2_with fail
  refine (HT.out _).mono ?_
  rintro e w1 ⟨⟨kind, frm, seq, id, i, n, text, a, len, cap, z, rfl, hk⟩, hb⟩
  have HO1 := Lib.hid ((HO.out.after hb).alloc (.cells (pkC kind frm seq id i n text (.slice a len cap)) 66 (0, 0)))
  clear hb HO HT
  simp only [pkC]
  simp only [pkC] at HO1
  by_cases hz : z = 0
  · have hk' : (kind == 1) = false := by rcases hk with h | h <;> simp_all
    have hk2 : (kind != 1) = true := by simp [bne, hk']
    subst hz
    clear hk
    go_upto_region 3 with fail
    generalize w1.alloc (.cells #[.int .i64 kind, .int .i64 frm, .int .i64 seq, .int .i64 id, .int .i64 i, .int .i64 n, .string text, .slice a len cap] 66 (0, 0)) = W at *
    have hz0 := HO1.out.z
    have x0 := cell_of hz0 0
    have x1 := cell_of hz0 1
    have x2 := cell_of hz0 2
    have x3 := cell_of hz0 3
    have x4 := cell_of hz0 4
    have x5 := cell_of hz0 5
    have x6 := cell_of hz0 6
    have f0 := frozen_of hz0 0
    have f1 := frozen_of hz0 1
    have f2 := frozen_of hz0 2
    have f3 := frozen_of hz0 3
    have f4 := frozen_of hz0 4
    have f5 := frozen_of hz0 5
    have f6 := frozen_of hz0 6
    simp [zeroH] at x0 x1 x2 x3 x4 x5 x6
    clear hz0
    go_wp2_with fail
    have R := row7 (Nat.le_refl _) HO1.out.below HO1.out.z rfl (.int .i64 0) (.string ⟨#[]⟩) (.int .i64 0) (.int .i64 0) (.int .i64 0) (.string ⟨#[]⟩) (.string ⟨#[]⟩)
    refine bodyPost_ret (v := .tuple #[.agg #[.int .i64 0, .string ⟨#[]⟩, .int .i64 0, .int .i64 0, .int .i64 0, .string ⟨#[]⟩, .string ⟨#[]⟩], .bool false]) ?r ?d ?fin
    case fin => exact ⟨rfl, R.1⟩
    case d => rfl
    case r => exact results_cell_val Tryz.results18 _ _ w.heap.size _ _ (0, 0) _ _ (by simp) (by simp) R.2 Tryz.underlying30 rfl (by kernel_rfl)
  · have hz' : (z == 0) = false := by simp [hz]
    clear hk hz
    go_upto_region 3 with fail
    generalize w1.alloc (.cells #[.int .i64 kind, .int .i64 frm, .int .i64 seq, .int .i64 id, .int .i64 i, .int .i64 n, .string text, .slice a len cap] 66 (0, 0)) = W at *
    have hz0 := HO1.out.z
    have x0 := cell_of hz0 0
    have x1 := cell_of hz0 1
    have x2 := cell_of hz0 2
    have x3 := cell_of hz0 3
    have x4 := cell_of hz0 4
    have x5 := cell_of hz0 5
    have x6 := cell_of hz0 6
    have f0 := frozen_of hz0 0
    have f1 := frozen_of hz0 1
    have f2 := frozen_of hz0 2
    have f3 := frozen_of hz0 3
    have f4 := frozen_of hz0 4
    have f5 := frozen_of hz0 5
    have f6 := frozen_of hz0 6
    simp [zeroH] at x0 x1 x2 x3 x4 x5 x6
    clear hz0
    go_wp2_with fail
    have R := row7 (Nat.le_refl _) HO1.out.below HO1.out.z rfl (.int .i64 0) (.string ⟨#[]⟩) (.int .i64 0) (.int .i64 0) (.int .i64 0) (.string ⟨#[]⟩) (.string ⟨#[]⟩)
    refine bodyPost_ret (v := .tuple #[.agg #[.int .i64 0, .string ⟨#[]⟩, .int .i64 0, .int .i64 0, .int .i64 0, .string ⟨#[]⟩, .string ⟨#[]⟩], .bool false]) ?r ?d ?fin
    case fin => exact ⟨rfl, R.1⟩
    case d => rfl
    case r => exact results_cell_val Tryz.results18 _ _ w.heap.size _ _ (0, 0) _ _ (by simp) (by simp) R.2 Tryz.underlying30 rfl (by kernel_rfl)
set_option maxRecDepth 100000 in
set_option maxHeartbeats 4000000 in
theorem roffered_bad (s : ByteArray) (h : offerOk s) (he : offerErr (offerFrom s) (s.extract 9 s.size) = 1) (hsz : s.size ≤ 140737488355) (w : World) :
    Calls Tryz.prog 18 #[.string s] w fun e w' => e = .returned (optHead none) ∧ Below w.heap.size w w' := by
  have HT := Lib.hid (fun W => (rptake_any s hsz W).mono (fun e w' x => (⟨x.1.1 h, x.2⟩ : e = .returned (offerV s) ∧ Below W.heap.size W w')))
  have HO := Lib.hid (OfAt.start w)
  unfold offerV at HT
  rw [if_neg (by rw [he]; decide)] at HT
  clear h hsz he
  simp only [optHead, zeroH]
  simp only [zeroH] at HO
  simp only [zeroP, pkC] at HT
  go_enter Tryz.func18, Tryz.ntmps18
  go_wp2_with fail
  refine (HT.out _).mono ?_
  rintro e w1 ⟨rfl, hb⟩
  have HO1 := Lib.hid ((HO.out.after hb).alloc (.cells #[.int .i64 0, .int .i64 0, .int .i64 0, .int .i64 0, .int .i64 0, .int .i64 0, .string ⟨#[]⟩, .slice none 0 0] 66 (0, 0)))
  clear hb HO HT
  go_upto_region 3 with fail
  generalize w1.alloc (.cells #[.int .i64 0, .int .i64 0, .int .i64 0, .int .i64 0, .int .i64 0, .int .i64 0, .string ⟨#[]⟩, .slice none 0 0] 66 (0, 0)) = W at *
  have hz0 := HO1.out.z
  have x0 := cell_of hz0 0
  have x1 := cell_of hz0 1
  have x2 := cell_of hz0 2
  have x3 := cell_of hz0 3
  have x4 := cell_of hz0 4
  have x5 := cell_of hz0 5
  have x6 := cell_of hz0 6
  have f0 := frozen_of hz0 0
  have f1 := frozen_of hz0 1
  have f2 := frozen_of hz0 2
  have f3 := frozen_of hz0 3
  have f4 := frozen_of hz0 4
  have f5 := frozen_of hz0 5
  have f6 := frozen_of hz0 6
  simp [zeroH] at x0 x1 x2 x3 x4 x5 x6
  clear hz0
  go_wp2_with fail
  have R := row7 (Nat.le_refl _) HO1.out.below HO1.out.z rfl (.int .i64 0) (.string ⟨#[]⟩) (.int .i64 0) (.int .i64 0) (.int .i64 0) (.string ⟨#[]⟩) (.string ⟨#[]⟩)
  refine bodyPost_ret (v := .tuple #[.agg #[.int .i64 0, .string ⟨#[]⟩, .int .i64 0, .int .i64 0, .int .i64 0, .string ⟨#[]⟩, .string ⟨#[]⟩], .bool false]) ?r ?d ?fin
  case fin => exact ⟨rfl, R.1⟩
  case d => rfl
  case r => exact results_cell_val Tryz.results18 _ _ w.heap.size _ _ (0, 0) _ _ (by simp) (by simp) R.2 Tryz.underlying30 rfl (by kernel_rfl)
set_option maxRecDepth 100000 in
set_option maxHeartbeats 4000000 in
theorem roffered_good (s : ByteArray) (h : offerOk s) (he : offerErr (offerFrom s) (s.extract 9 s.size) = 0) (ht : htakeErr (s.extract 9 s.size) = 0) (hsz : s.size ≤ 140737488355) (w : World) :
    Calls Tryz.prog 18 #[.string s] w fun e w' => e = .returned (optHead (some (headOf (s.extract 9 s.size)))) ∧ Below w.heap.size w w' := by
  have HT := Lib.hid (fun W => (rptake_any s hsz W).mono (fun e w' x => (⟨x.1.1 h, x.2⟩ : e = .returned (offerV s) ∧ Below W.heap.size W w')))
  have HO := Lib.hid (OfAt.start w)
  unfold offerV at HT
  rw [if_pos he] at HT
  generalize offerFrom s = frm at *
  have hh := htake_ok ht
  generalize s.extract 9 s.size = tx at *
  have HH := Lib.hid (fun W => rhtake_any tx W)
  unfold rhtakeV at HH
  rw [ht, hh] at HH
  clear h hsz he hh ht
  generalize headOf tx = hd at *
  simp only [optHead]
  simp only [Header.val] at HH ⊢
  simp only [zeroH] at HO
  simp only [pkC] at HT
  go_enter Tryz.func18, Tryz.ntmps18
  go_wp2_with fail
  refine (HT.out _).mono ?_
  rintro e w1 ⟨rfl, hb⟩
  have HO1 := Lib.hid ((HO.out.after hb).alloc (.cells #[.int .i64 1, .int .i64 frm, .int .i64 0, .int .i64 0, .int .i64 0, .int .i64 0, .string tx, .slice none 0 0] 66 (0, 0)))
  clear hb HO HT
  go_wp2_with fail
  refine (HH.out _).mono ?_
  rintro e w2 ⟨rfl, hb⟩
  have HO2 := Lib.hid ((HO1.out.after hb).alloc (.cells #[.int .i64 hd.id, .string hd.salt, .int .i64 hd.n, .int .i64 hd.bytes, .int .i64 hd.raw, .string hd.root, .string hd.tag] 30 (0, 0)))
  have hz0 := HO2.out.z
  have x0 := cell_of hz0 0
  have x1 := cell_of hz0 1
  have x2 := cell_of hz0 2
  have x3 := cell_of hz0 3
  have x4 := cell_of hz0 4
  have x5 := cell_of hz0 5
  have x6 := cell_of hz0 6
  have f0 := frozen_of hz0 0
  have f1 := frozen_of hz0 1
  have f2 := frozen_of hz0 2
  have f3 := frozen_of hz0 3
  have f4 := frozen_of hz0 4
  have f5 := frozen_of hz0 5
  have f6 := frozen_of hz0 6
  simp [zeroH] at x0 x1 x2 x3 x4 x5 x6
  clear hz0 hb HO1 HH
  go_wp2_with fail
  have R := row7 (Nat.le_refl _) HO2.out.below HO2.out.z rfl (.int .i64 hd.id) (.string hd.salt) (.int .i64 hd.n) (.int .i64 hd.bytes) (.int .i64 hd.raw) (.string hd.root) (.string hd.tag)
  refine bodyPost_ret (v := .tuple #[.agg #[.int .i64 hd.id, .string hd.salt, .int .i64 hd.n, .int .i64 hd.bytes, .int .i64 hd.raw, .string hd.root, .string hd.tag], .bool true]) ?r ?d ?fin
  case fin => exact ⟨rfl, R.1⟩
  case d => rfl
  case r => exact results_cell_val Tryz.results18 _ _ w.heap.size _ _ (0, 0) _ _ (by simp) (by simp) R.2 Tryz.underlying30 rfl (by kernel_rfl)
theorem roffered_any (s : ByteArray) (hsz : s.size ≤ 140737488355) (w : World) :
    Calls Tryz.prog 18 #[.string s] w fun e w' => e = .returned (optHead (offeredH s)) ∧ Below w.heap.size w w' := by
  unfold offeredH
  by_cases h : offerOk s
  · by_cases hn : numOk (offerFrom s) 1 = true ∧ htakeErr (s.extract 9 s.size) = 0
    · rw [if_pos ⟨h, hn⟩]
      exact roffered_good s h (by unfold offerErr; rw [if_pos hn]) hn.2 hsz w
    · rw [if_neg (fun x => hn x.2)]
      exact roffered_bad s h (by unfold offerErr; rw [if_neg hn]) hsz w
  · rw [if_neg (fun x => h x.1)]
    exact roffered_none s h hsz w
end Go.Proofs.YtpmgackgcefalaaGreat
namespace Go.Proofs.YtpmgackgcefalaaGreat
open Go.RowKit
set_option maxHeartbeats 400000 in
theorem width_any (x : Int) (w : World) :
    Calls Tryz.prog 81 #[.int .i64 x] w fun e w' => e = .returned (.int .i64 (Sha.width x : Nat)) ∧ w = w' := by
  have hc : (x < 1 ∧ Sha.width x = 1) ∨ (1 ≤ x ∧ x ≤ 32 ∧ (Sha.width x : Int) = x) ∨ (32 < x ∧ Sha.width x = 32) := by unfold Sha.width; omega
  rcases hc with ⟨h1, h2⟩ | ⟨h1, h2, h3⟩ | ⟨h1, h2⟩
  · rw [h2]
    clear h2
    go_enter Tryz.func81, Tryz.ntmps81
    go_wp2
    go_ret
    exact ⟨rfl, rfl⟩
  · rw [h3]
    clear h3
    go_enter Tryz.func81, Tryz.ntmps81
    go_wp2
    all_goals
      go_ret
      exact ⟨by first | rfl | (congr 2; omega), rfl⟩
  · rw [h2]
    clear h2
    go_enter Tryz.func81, Tryz.ntmps81
    go_wp2
    all_goals
      go_ret
      exact ⟨by first | rfl | (congr 2; omega), rfl⟩
set_option maxHeartbeats 400000 in
theorem msum_any (x : Int) (v : Value) (ss : List ByteArray) (w : World) (hs : SliceOf strS w v ss) (hlen : ss.length ≤ maxLen) (hsz : (joined ss).length ≤ 140737488355200) :
    Calls Tryz.prog 49 #[.int .i64 x, v] w fun e w' => e = .returned (.string (str (Sha.msum x (joined ss)))) ∧ Below w.heap.size w w' := by
  have hl : (str (Sha.sum (joined ss))).size = 32 := by rw [str_size, Sha.sum_length]
  have hw : Sha.width x ≤ 32 := by unfold Sha.width; omega
  go_enter Tryz.func49, Tryz.ntmps49
  go_wp2_with fail
  refine (shasum_any v ss _ hs hlen hsz).mono ?_
  rintro e w1 ⟨rfl, hb⟩
  obtain ⟨sm, hsm⟩ : ∃ sm, sm = str (Sha.sum (joined ss)) := ⟨_, rfl⟩
  have hfin : str (Sha.msum x (joined ss)) = sm.extract 0 (Sha.width x) := by
    rw [hsm, str, ByteArray.extract_mk]
    rfl
  rw [show (⟨(Sha.sum (joined ss)).toArray⟩ : ByteArray) = sm from hsm.symm]
  rw [← hsm] at hl
  have hl' : (sm.size : Int) = 32 := by omega
  have HF := Lib.hid hfin
  have HL := Lib.hid hl
  have hw1 : Sha.width x ≤ sm.size := by omega
  have hw2 : ((Sha.width x : Nat) : Int) ≤ sm.size := by omega
  clear hsm hfin hl hl'
  go_wp2_with fail
  refine (width_any x _).mono ?_
  rintro e w' ⟨rfl, rfl⟩
  go_wp2_with fail
  go_ret
  exact ⟨by rw [HF.out]; rfl, hb⟩
end Go.Proofs.YtpmgackgcefalaaGreat
namespace Go.Proofs.YtpmgackgcefalaaGreat
open Go.RowKit
set_option maxHeartbeats 400000 in
theorem cut_any (n : Nat) (hn : n ≤ 1152921504606846976) (w : World) :
    Calls Tryz.prog 67 #[.int .i64 n] w fun e w' => e = .returned (.int .i64 (Sha.cut n : Nat)) ∧ Below w.heap.size w w' := by
  go_enter Tryz.func67, Tryz.ntmps67
  go_wp2_with fail
  go_loopg [3] n (fun f v wr => ∃ c : Nat, v = .int .i64 c ∧ w = wr ∧ Hid (Sha.cutF f c n = Sha.cut n) ∧ 1 ≤ c ∧ c ≤ n + 1 ∧ n + 1 ≤ f + c)
  case atStart => exact ⟨1, rfl, rfl, rfl, by omega, by omega, by omega⟩
  case round =>
    obtain ⟨c, rfl, rfl, hc, h1, h2, h3⟩ := hrel
    by_cases hlt : 2 * c < n
    · have hlt' : (c : Int) < n - c := by omega
      obtain ⟨f, rfl⟩ : ∃ f, gk = f + 1 := ⟨gk - 1, by omega⟩
      have hc' : Hid (Sha.cutF f (2 * c) n = Sha.cut n) := by
        have := hc.out
        rw [Sha.cutF, if_pos hlt] at this
        exact this
      clear hc
      go_wp2_with fail
      go_roundg f
      case measure => omega
      case rel => exact ⟨2 * c, by go_num, rfl, hc', by omega, by omega, by omega⟩
    · have hlt' : ¬ (c : Int) < n - c := by omega
      have hc' : Hid (c = Sha.cut n) := by
        have := hc.out
        cases gk with
        | zero => exact this
        | succ f => rw [Sha.cutF, if_neg hlt] at this; exact this
      clear hc
      go_wp2_with fail
      go_ret
      exact ⟨by rw [← hc'.out]; rfl, Below.refl _ _⟩
end Go.Proofs.YtpmgackgcefalaaGreat
namespace Go.Proofs.YtpmgackgcefalaaGreat
open Go.RowKit
def topB (x : Int) (l : List ByteArray) : ByteArray :=
  if h : l.length < 2 then
    match l with
    | [] => ⟨#[]⟩
    | s :: _ => ⟨#[0]⟩ ++ s
  else
    ⟨#[1]⟩ ++ str (Sha.msum x (topB x (l.take (Sha.cut l.length))).data.toList) ++ str (Sha.msum x (topB x (l.drop (Sha.cut l.length))).data.toList)
termination_by l.length
decreasing_by
  · have := Sha.cut_lt l.length (by omega)
    simp; omega
  · have := Sha.cut_pos l.length
    simp; omega
theorem topB_nil (x : Int) : topB x [] = ⟨#[]⟩ := by rw [topB]; simp
theorem topB_one (x : Int) (s : ByteArray) : topB x [s] = ⟨#[0]⟩ ++ s := by rw [topB]; simp
theorem topB_more (x : Int) (l : List ByteArray) (h : 2 ≤ l.length) : topB x l = ⟨#[1]⟩ ++ str (Sha.msum x (topB x (l.take (Sha.cut l.length))).data.toList) ++ str (Sha.msum x (topB x (l.drop (Sha.cut l.length))).data.toList) := by
  rw [topB, dif_neg (by omega)]
def sumB (x : Int) (l : List ByteArray) : ByteArray := str (Sha.msum x (topB x l).data.toList)
theorem msum_length (x : Int) (l : List UInt8) : (Sha.msum x l).length = Sha.width x := by
  unfold Sha.msum
  rw [List.length_take, Sha.sum_length]
  unfold Sha.width
  omega
theorem sumB_size (x : Int) (l : List ByteArray) : (sumB x l).size = Sha.width x := by unfold sumB; rw [str_size, msum_length]
def apartV (x : Int) (a b : List ByteArray) : Option (ByteArray × ByteArray) :=
  if topB x a ≠ topB x b then some (topB x a, topB x b)
  else if h : a.length < 2 then none
  else match apartV x (a.take (Sha.cut a.length)) (b.take (Sha.cut b.length)) with
    | some r => some r
    | none => apartV x (a.drop (Sha.cut a.length)) (b.drop (Sha.cut b.length))
termination_by a.length
decreasing_by
  · have := Sha.cut_lt a.length (by omega)
    simp; omega
  · have := Sha.cut_pos a.length
    simp; omega
def leavesV (x : Int) (a b : List ByteArray) : Option (ByteArray × ByteArray) := if sumB x a ≠ sumB x b then none else apartV x a b
def optTexts : Option (ByteArray × ByteArray) → Value
  | some r => .tuple #[.string r.1, .string r.2, .bool true]
  | none => .tuple #[.string ⟨#[]⟩, .string ⟨#[]⟩, .bool false]
end Go.Proofs.YtpmgackgcefalaaGreat
namespace Go.Proofs.YtpmgackgcefalaaGreat
open Go.RowKit
theorem below_store {w w2 : World} (h : Below w.heap.size w w2) (k : Nat) (v : Value) : Below w.heap.size w (w2.setCell ⟨w.heap.size, k, none⟩ v) := h.setCell (Nat.le_refl _) v
inductive TreeAt (x : Int) (W : World) (B : Nat) : Value → List ByteArray → Prop
  | leaf (g : Nat) (l : List ByteArray) (hB : B ≤ g) (hl : l.length < 2) (h : W.heap[g]? = some (.cells #[.string (topB x l), .string (sumB x l), .pointer none, .pointer none] 75 (0, 0))) : TreeAt x W B (.pointer (some ⟨g, 0, none⟩)) l
  | node (g : Nat) (l : List ByteArray) (p q : Value) (hB : B ≤ g) (hl : 2 ≤ l.length) (h : W.heap[g]? = some (.cells #[.string (topB x l), .string (sumB x l), p, q] 75 (0, 0)))
      (hp : TreeAt x W B p (l.take (Sha.cut l.length))) (hq : TreeAt x W B q (l.drop (Sha.cut l.length))) : TreeAt x W B (.pointer (some ⟨g, 0, none⟩)) l
theorem TreeAt.mono {x : Int} {W W' : World} {B : Nat} {p : Value} {l : List ByteArray} (t : TreeAt x W B p l) (hb : Below W.heap.size W W') : TreeAt x W' B p l := by
  induction t with
  | leaf g l hB hl h => exact .leaf g l hB hl (heap_below h hb)
  | node g l p q hB hl h _ _ ih1 ih2 => exact .node g l p q hB hl (heap_below h hb) ih1 ih2
theorem TreeAt.base {x : Int} {W : World} {B B' : Nat} {p : Value} {l : List ByteArray} (t : TreeAt x W B p l) (hB' : B' ≤ B) : TreeAt x W B' p l := by
  induction t with
  | leaf g l hB hl h => exact .leaf g l (Nat.le_trans hB' hB) hl h
  | node g l p q hB hl h _ _ ih1 ih2 => exact .node g l p q (Nat.le_trans hB' hB) hl h ih1 ih2
theorem TreeAt.set {x : Int} {W : World} {B g0 : Nat} {p : Value} {l : List ByteArray} (t : TreeAt x W B p l) (hg : g0 < B) (k : Nat) (v : Value) : TreeAt x (W.setCell ⟨g0, k, none⟩ v) B p l := by
  induction t with
  | leaf g l hB hl h => exact .leaf g l hB hl (by rw [heap_setCell_ne (by simp; omega)]; exact h)
  | node g l p q hB hl h _ _ ih1 ih2 => exact .node g l p q hB hl (by rw [heap_setCell_ne (by simp; omega)]; exact h) ih1 ih2
theorem TreeAt.root {x : Int} {W : World} {B : Nat} {p : Value} {l : List ByteArray} (t : TreeAt x W B p l) : ∃ g q1 q2, p = .pointer (some ⟨g, 0, none⟩) ∧ B ≤ g ∧ W.heap[g]? = some (.cells #[.string (topB x l), .string (sumB x l), q1, q2] 75 (0, 0)) := by
  cases t with
  | leaf g l hB hl h => exact ⟨_, _, _, rfl, hB, h⟩
  | node g l p q hB hl h _ _ => exact ⟨_, _, _, rfl, hB, h⟩
theorem SliceOf.take {w : World} {a : Option Addr} {cap : Nat} {xs : List ByteArray} (h : ElemsAt strS w a cap xs) (k : Nat) (hk : k ≤ xs.length) (hk1 : 1 ≤ k) : SliceOf strS w (.slice a k cap) (xs.take k) := by
  have hl : (xs.take k).length = k := by simp; omega
  rcases h with ⟨rfl, _⟩ | ⟨b, off, rfl, hlt, h1, h2, hc⟩
  · simp at hk; omega
  · refine ⟨_, cap, by rw [hl], .inr ⟨b, off, rfl, hlt, by omega, h2, fun i x hx => hc i x ?_⟩⟩
    rw [List.getElem?_take] at hx
    split at hx
    · exact hx
    · cases hx
theorem SliceOf.drop {w : World} {b off cap : Nat} {xs : List ByteArray} (h : ElemsAt strS w (some ⟨b, off, none⟩) cap xs) (k : Nat) (hk : k < xs.length) : SliceOf strS w (.slice (some ⟨b, off + k, none⟩) (xs.length - k) (cap - k)) (xs.drop k) := by
  have hl : (xs.drop k).length = xs.length - k := by simp
  rcases h with ⟨rfl, _⟩ | ⟨b', off', he, hlt, h1, h2, hc⟩
  · simp at hk
  · cases he
    refine ⟨_, cap - k, by rw [hl], .inr ⟨b, off + k, rfl, hlt, by omega, by omega, fun i x hx => ?_⟩⟩
    rw [List.getElem?_drop] at hx
    obtain ⟨cs, hr, hcell⟩ := hc (k + i) x hx
    refine ⟨cs, hr, fun j c hj => ?_⟩
    have := hcell j c hj
    have e : off + (k + i) * strS.n + j = off + k + i * strS.n + j := by
      have : strS.n = 1 := rfl
      rw [this]; omega
    rw [← e]; exact this
set_option maxRecDepth 100000 in
set_option maxHeartbeats 2000000 in
theorem grown_nil (x : Int) (cap : Nat) (a : Option Addr) (w : World) :
    Calls Tryz.prog 35 #[.int .i64 x, .slice a 0 cap] w fun e w' => (∃ p, e = .returned p ∧ TreeAt x w' w.heap.size p []) ∧ Below w.heap.size w w' := by
  have hA0 := heap_alloc_new w (.cells #[.string ⟨#[]⟩, .string ⟨#[]⟩, .pointer none, .pointer none] 75 (0, 0))
  have hB0 := (Below.refl w.heap.size w).alloc (Nat.le_refl _) (.cells #[.string ⟨#[]⟩, .string ⟨#[]⟩, .pointer none, .pointer none] 75 (0, 0))
  obtain ⟨T, hT⟩ : ∃ T : ByteArray, T = ⟨#[]⟩ := ⟨_, rfl⟩
  have htopT : Hid (topB x [] = T) := Lib.hid (by rw [topB_nil, hT])
  have HSZ : Hid (T.size ≤ 140737488355200) := Lib.hid (by rw [hT]; decide)
  have HA5 : Hid ((w.alloc (.cells #[.string ⟨#[]⟩, .string ⟨#[]⟩, .pointer none, .pointer none] 75 (0, 0))).heap[w.heap.size]? = some (Obj.cells #[.string T, .string ⟨#[]⟩, .pointer none, .pointer none] 75 (0, 0))) := Lib.hid (by rw [hT]; exact hA0)
  have HB5 := Lib.hid hB0
  clear hA0 hB0 hT
  go_enter Tryz.func35, Tryz.ntmps35
  go_upto_region 9 with fail
  generalize w.alloc (.cells #[.string ⟨#[]⟩, .string ⟨#[]⟩, .pointer none, .pointer none] 75 (0, 0)) = W5 at *
  have hA5 := HA5.out
  have y0 := cell_of hA5 0
  simp at y0
  have hs5 := HB5.out.size
  have hl5 := lt_of_heap hA5
  have j1 : joined [T] = T.data.toList := by simp [joined]
  have HMS := Lib.hid (fun W v (hv : SliceOf strS W v [T]) => msum_any x v [T] W hv (by simp [maxLen]) (by rw [j1, Array.length_toList]; exact HSZ.out))
  rw [j1] at HMS
  have HLS := Lib.hid (fun (W : World) => SliceOf.litS W _ rfl [T] 9 1 rfl (by decide) #[.string T] rfl)
  clear j1 hA5
  go_wp2_with fail
  refine (HMS.out _ _ (HLS.out _)).mono ?_
  rintro e W6 ⟨rfl, hb6⟩
  have hA6 := heap_below (heap_alloc_old HA5.out) hb6
  have HB6 := Lib.hid ((HB5.out.alloc hs5 _).trans (hb6.mono (by simp; omega)))
  have HK6 := Lib.hid (fun (p : Value) (l' : List ByteArray) (B : Nat) (t : TreeAt x W5 B p l') => ((t.mono ((Below.refl _ _).alloc (Nat.le_refl _) _)).mono hb6 : TreeAt x W6 B p l'))
  have x1 := cell_of hA6 1
  have f1 := frozen_of hA6 1
  simp at x1
  have HA6 := Lib.hid hA6
  clear hb6 hA6 y0 HMS HLS hs5 hl5
  go_wp2_with fail
  go_ret
  exact ⟨⟨_, rfl, .leaf _ _ (Nat.le_refl _) (by simp) (by rw [htopT.out, show sumB x [] = str (Sha.msum x T.data.toList) by unfold sumB; rw [htopT.out]]; exact heap_setCell HA6.out 1 _)⟩, below_store HB6.out 1 _⟩
set_option maxRecDepth 100000 in
set_option maxHeartbeats 2000000 in
theorem grown_one (x : Int) (s : ByteArray) (cap : Nat) (a : Option Addr) (w : World) (hs : s.size ≤ 140737488355000) (he : ElemsAt strS w a cap [s]) :
    Calls Tryz.prog 35 #[.int .i64 x, .slice a 1 cap] w fun e w' => (∃ p, e = .returned p ∧ TreeAt x w' w.heap.size p [s]) ∧ Below w.heap.size w w' := by
  have hA0 := heap_alloc_new w (.cells #[.string ⟨#[]⟩, .string ⟨#[]⟩, .pointer none, .pointer none] 75 (0, 0))
  have hB0 := (Below.refl w.heap.size w).alloc (Nat.le_refl _) (.cells #[.string ⟨#[]⟩, .string ⟨#[]⟩, .pointer none, .pointer none] 75 (0, 0))
  obtain ⟨b, off, rfl, hblt, hc⟩ := he.str (show 0 < [s].length by simp)
  have hc1 := (hB0.cell (p := ⟨b, off + 0, none⟩) hblt).trans hc
  simp at hc1
  have hsz : (⟨#[0]⟩ ++ s).size ≤ 140737488355200 := by
    rw [ByteArray.size_append]
    have : (ByteArray.mk #[0]).size = 1 := rfl
    omega
  have q1 : (ByteArray.mk #[0]).size = 1 := rfl
  have p1 : ¬ 9223372036854775807 < 1 + s.size := by omega
  obtain ⟨T, hT⟩ : ∃ T : ByteArray, T = ⟨#[0]⟩ ++ s := ⟨_, rfl⟩
  have htopT : Hid (topB x [s] = T) := Lib.hid (by rw [topB_one, hT])
  have HSZ : Hid (T.size ≤ 140737488355200) := Lib.hid (by rw [hT]; exact hsz)
  have HA5 := Lib.hid (heap_alloc_new w (.cells #[.string T, .string ⟨#[]⟩, .pointer none, .pointer none] 75 (0, 0)))
  have HB5 := Lib.hid ((Below.refl w.heap.size w).alloc (Nat.le_refl _) (.cells #[.string T, .string ⟨#[]⟩, .pointer none, .pointer none] 75 (0, 0)))
  clear hA0 hB0 he hc hs hsz
  go_enter Tryz.func35, Tryz.ntmps35
  go_upto_region 9 with fail
  rw [← hT]
  clear hT hc1 q1 p1
  generalize w.alloc (.cells #[.string T, .string ⟨#[]⟩, .pointer none, .pointer none] 75 (0, 0)) = W5 at *
  have hA5 := HA5.out
  have y0 := cell_of hA5 0
  simp at y0
  have hs5 := HB5.out.size
  have hl5 := lt_of_heap hA5
  have j1 : joined [T] = T.data.toList := by simp [joined]
  have HMS := Lib.hid (fun W v (hv : SliceOf strS W v [T]) => msum_any x v [T] W hv (by simp [maxLen]) (by rw [j1, Array.length_toList]; exact HSZ.out))
  rw [j1] at HMS
  have HLS := Lib.hid (fun (W : World) => SliceOf.litS W _ rfl [T] 9 1 rfl (by decide) #[.string T] rfl)
  clear j1 hA5
  go_wp2_with fail
  refine (HMS.out _ _ (HLS.out _)).mono ?_
  rintro e W6 ⟨rfl, hb6⟩
  have hA6 := heap_below (heap_alloc_old HA5.out) hb6
  have HB6 := Lib.hid ((HB5.out.alloc hs5 _).trans (hb6.mono (by simp; omega)))
  have HK6 := Lib.hid (fun (p : Value) (l' : List ByteArray) (B : Nat) (t : TreeAt x W5 B p l') => ((t.mono ((Below.refl _ _).alloc (Nat.le_refl _) _)).mono hb6 : TreeAt x W6 B p l'))
  have x1 := cell_of hA6 1
  have f1 := frozen_of hA6 1
  simp at x1
  have HA6 := Lib.hid hA6
  clear hb6 hA6 y0 HMS HLS hs5 hl5
  go_wp2_with fail
  go_ret
  exact ⟨⟨_, rfl, .leaf _ _ (Nat.le_refl _) (by simp) (by rw [htopT.out, show sumB x [s] = str (Sha.msum x T.data.toList) by unfold sumB; rw [htopT.out]]; exact heap_setCell HA6.out 1 _)⟩, below_store HB6.out 1 _⟩
set_option maxRecDepth 100000 in
set_option maxHeartbeats 4000000 in
theorem grown_any (x : Int) (M : Nat) (hM : M ≤ 140737488355000) : ∀ (n : Nat) (l : List ByteArray) (v : Value) (w : World), l.length = n → n ≤ 1152921504606846976 → (∀ s ∈ l, s.size ≤ M) → SliceOf strS w v l →
    Calls Tryz.prog 35 #[.int .i64 x, v] w fun e w' => (∃ p, e = .returned p ∧ TreeAt x w' w.heap.size p l) ∧ Below w.heap.size w w' := by
  intro n
  induction n using Nat.strongRecOn with
  | ind n IH =>
    intro l v w hl hn hs hv
    subst hl
    obtain ⟨a, cap, rfl, he⟩ := hv
    have HE := Lib.hid he
    by_cases h2 : 2 ≤ l.length
    · have IH1 := Lib.hid (IH (Sha.cut l.length) (by have := Sha.cut_lt l.length h2; omega) (l.take (Sha.cut l.length)) (.slice a (Sha.cut l.length) cap))
      obtain ⟨b, off, rfl, hblt, cs, hcs, -⟩ := he.at (show 0 < l.length by omega)
      have IH2 := Lib.hid (IH (l.length - Sha.cut l.length) (by have := Sha.cut_pos l.length; omega) (l.drop (Sha.cut l.length)) (.slice (some ⟨b, off + Sha.cut l.length, none⟩) (l.length - Sha.cut l.length) (cap - Sha.cut l.length)))
      have hck := Sha.cut_lt l.length h2
      have hcp := Sha.cut_pos l.length
      have hcap : l.length ≤ cap := by
        rcases he with ⟨rfl, _⟩ | ⟨_, _, _, _, hh, _⟩
        · simp at h2
        · exact hh
      have HCUT := Lib.hid (fun W => cut_any l.length (by omega) W)
      have hA0 := heap_alloc_new w (.cells #[.string ⟨#[]⟩, .string ⟨#[]⟩, .pointer none, .pointer none] 75 (0, 0))
      have hB0 := (Below.refl w.heap.size w).alloc (Nat.le_refl _) (.cells #[.string ⟨#[]⟩, .string ⟨#[]⟩, .pointer none, .pointer none] 75 (0, 0))
      have HA0 := Lib.hid hA0
      have HB0 := Lib.hid hB0
      have l2 : ¬ (l.length : Int) = 0 := by omega
      have l3 : ¬ (l.length : Int) = 1 := by omega
      have b2 : ((l.length : Int) == 0) = false := beq_eq_false_iff_ne.2 l2
      have b3 : ((l.length : Int) == 1) = false := beq_eq_false_iff_ne.2 l3
      clear he hcs hA0 hB0
      go_enter Tryz.func35, Tryz.ntmps35
      go_wp2_with fail
      refine (HCUT.out _).mono ?_
      rintro e W1 ⟨rfl, hb1⟩
      have HA1 := Lib.hid (heap_below HA0.out hb1)
      have hB1 := HB0.out.trans (hb1.mono HB0.out.size)
      have HB1 := Lib.hid hB1
      clear hb1 HA0 HB0 HCUT l2 l3 b2 b3
      have k0 : (0 : Int) ≤ Sha.cut l.length := by omega
      have k1 : (Sha.cut l.length : Int) ≤ cap := by omega
      have k2 : (Sha.cut l.length : Int) ≤ l.length := by omega
      have HS1 := Lib.hid (SliceOf.take HE.out (Sha.cut l.length) (by omega) hcp)
      have HS2 := Lib.hid (SliceOf.drop HE.out (Sha.cut l.length) hck)
      have t1 : (l.take (Sha.cut l.length)).length = Sha.cut l.length := by simp; omega
      have t2 : (l.drop (Sha.cut l.length)).length = l.length - Sha.cut l.length := by simp
      have hs1 : Hid (∀ s ∈ l.take (Sha.cut l.length), s.size ≤ M) := Lib.hid (fun s h => hs s (List.mem_of_mem_take h))
      have hs2 : Hid (∀ s ∈ l.drop (Sha.cut l.length), s.size ≤ M) := Lib.hid (fun s h => hs s (List.mem_of_mem_drop h))
      have HI1 := Lib.hid (fun W hb => IH1.out W t1 (by omega) hs1.out (HS1.out.mono hb))
      have HI2 := Lib.hid (fun W hb => IH2.out W t2 (by omega) hs2.out (HS2.out.mono hb))
      have hcapk : cap - Sha.cut l.length + Sha.cut l.length = cap := by omega
      have HCK := Lib.hid hcapk
      have HS := Lib.hid hs
      clear IH1 IH2 HS1 HS2 t1 t2 hs1 hs2 hcapk hs IH
      generalize hkk : Sha.cut l.length = k at *
      have HKK := Lib.hid hkk
      clear hkk
      go_upto_region 4 with fail
      have hb0 := HB1.out
      go_region_held3 (fun w' => Below w.heap.size w w') (first | with_reducible assumption | with_reducible exact below_drew1 (by with_reducible assumption) | with_reducible exact below_store (by with_reducible assumption) _ _ | with_reducible exact below_store (below_store (by with_reducible assumption) _ _) _ _ | with_reducible exact below_drew1 (below_store (by with_reducible assumption) _ _))
        ((first
          | (go_at_call 35; with_reducible refine (HI1.out _ (by with_reducible assumption)).mono ?_; rintro e w1 ⟨⟨p, rfl, tp⟩, hb1⟩; obtain ⟨g1, q1, q2, rfl, hB1', hg1⟩ := tp.root; have hS1 := keep_below (w := w) hb1 (by with_reducible assumption); have TP := Lib.hid tp; clear tp; have hA2 : w1.heap[w.heap.size]? = some (.cells #[.string ⟨#[]⟩, .string ⟨#[]⟩, .pointer none, .pointer none] 75 (0, 0)) := (by first | exact heap_below HA1.out hb1 | exact heap_below ((Same.drew _).at HA1.out) hb1))
          | (go_at_call 35; with_reducible refine (HI2.out _ (by with_reducible assumption)).mono ?_; rintro e w2 ⟨⟨q, rfl, tq⟩, hb2⟩; obtain ⟨g2, q3, q4, rfl, hB2', hg2⟩ := tq.root; have hS2 := keep_below (w := w) hb2 (by with_reducible assumption); have TQ := Lib.hid tq; clear tq; have hA3 : w2.heap[w.heap.size]? = some (.cells #[.string ⟨#[]⟩, .string ⟨#[]⟩, .pointer none, .pointer none] 75 (0, 0)) := (by first | exact heap_below hA2 hb2 | exact heap_below ((Same.drew _).at hA2) hb2); have x2 := cell_of hA3 2; have x3 := cell_of hA3 3; have f2 := frozen_of hA3 2; have f3 := frozen_of hA3 3; simp at x2 x3)))
      have hWs := hS1.size
      have hW1s := lt_of_heap HA1.out
      have HG1 := Lib.hid (heap_below (by first | exact hg1 | exact (Same.drew _).at hg1) hb2)
      have HTP := Lib.hid ((TP.out.mono (by first | exact hb2 | exact ((Same.drew _).below _).trans hb2)).base (B' := w.heap.size + 1) hW1s)
      have HTQ := Lib.hid (TQ.out.base (B' := w.heap.size + 1) (lt_of_heap hA2))
      have HTP2 := Lib.hid ((HTP.out.set (Nat.lt_succ_self _) 2 (.pointer (some ⟨g1, 0, none⟩))).set (Nat.lt_succ_self _) 3 (.pointer (some ⟨g2, 0, none⟩)))
      have HTQ2 := Lib.hid ((HTQ.out.set (Nat.lt_succ_self _) 2 (.pointer (some ⟨g1, 0, none⟩))).set (Nat.lt_succ_self _) 3 (.pointer (some ⟨g2, 0, none⟩)))
      have HA4 : Hid (((w2.setCell ⟨w.heap.size, 2, none⟩ (.pointer (some ⟨g1, 0, none⟩))).setCell ⟨w.heap.size, 3, none⟩ (.pointer (some ⟨g2, 0, none⟩))).heap[w.heap.size]? = some (Obj.cells #[.string ⟨#[]⟩, .string ⟨#[]⟩, .pointer (some ⟨g1, 0, none⟩), .pointer (some ⟨g2, 0, none⟩)] 75 (0, 0))) := Lib.hid (heap_setCell (heap_setCell hA3 2 (.pointer (some ⟨g1, 0, none⟩))) 3 (.pointer (some ⟨g2, 0, none⟩)))
      have HB4 := Lib.hid (below_store (below_store hS2 2 (.pointer (some ⟨g1, 0, none⟩))) 3 (.pointer (some ⟨g2, 0, none⟩)))
      clear hg1 hg2 hb1 hb2 hA2 hA3 x2 x3 f2 f3 TP TQ HTP HTQ hS1 hS2 HG1 hB1' hB2'
      go_wp2_with fail
      generalize (w2.setCell ⟨w.heap.size, 2, none⟩ (.pointer (some ⟨g1, 0, none⟩))).setCell ⟨w.heap.size, 3, none⟩ (.pointer (some ⟨g2, 0, none⟩)) = W4 at *
      obtain ⟨g1', u1, u2, e1, hBg1, hh1⟩ := HTP2.out.root
      obtain ⟨g2', u3, u4, e2, hBg2, hh2⟩ := HTQ2.out.root
      cases e1
      cases e2
      have z1 := sumB_size x (l.take k)
      have z2 := sumB_size x (l.drop k)
      have hw32 : Sha.width x ≤ 32 := by unfold Sha.width; omega
      have htop : Hid (topB x l = ⟨#[1]⟩ ++ sumB x (l.take k) ++ sumB x (l.drop k)) := Lib.hid (by rw [topB_more x l h2, HKK.out]; rfl)
      have hsz : (⟨#[1]⟩ ++ sumB x (l.take k) ++ sumB x (l.drop k)).size ≤ 65 := by
        rw [ByteArray.size_append, ByteArray.size_append, z1, z2]
        have : (ByteArray.mk #[1]).size = 1 := rfl
        omega
      have HSZ := Lib.hid hsz
      clear hsz
      have c11 := cell_of hh1 1
      have c21 := cell_of hh2 1
      simp at c11 c21
      generalize sumB x (l.take k) = s1 at *
      generalize sumB x (l.drop k) = s2 at *
      have y0 := cell_of HA4.out 0
      have y1 := cell_of HA4.out 1
      have y2 := cell_of HA4.out 2
      have y3 := cell_of HA4.out 3
      have f0 := frozen_of HA4.out 0
      simp at y0 y1 y2 y3
      have q1 : (ByteArray.mk #[1]).size = 1 := rfl
      have p1 : ¬ 9223372036854775807 < 1 + Sha.width x := by omega
      have p2 : ¬ 9223372036854775807 < 1 + Sha.width x + Sha.width x := by omega
      clear hh1 hh2 hw32
      go_region
      generalize hT : (⟨#[1]⟩ : ByteArray) ++ s1 ++ s2 = T at *
      have htopT : Hid (topB x l = T) := htop
      have HSZ : Hid (T.size ≤ 140737488355200) := Lib.hid (Nat.le_trans HSZ.out (show 65 ≤ 140737488355200 by decide))
      have HA5 := Lib.hid ((Same.drew _).at (heap_setCell HA4.out 0 (.string T)))
      have HB5 := Lib.hid (below_drew1 (below_store HB4.out 0 (.string T)))
      have HTP5 := Lib.hid ((HTP2.out.set (Nat.lt_succ_self _) 0 (.string T)).mono ((Same.drew _).below _))
      have HTQ5 := Lib.hid ((HTQ2.out.set (Nat.lt_succ_self _) 0 (.string T)).mono ((Same.drew _).below _))
      clear hT y0 y1 y2 y3 f0 c11 c21 HA4 HB4 HTP2 HTQ2 p1 p2 q1 htop
      generalize (W4.setCell ⟨w.heap.size, 0, none⟩ (.string T)).drew = W5 at *
      have hA5 := HA5.out
      have y0 := cell_of hA5 0
      simp at y0
      have hs5 := HB5.out.size
      have hl5 := lt_of_heap hA5
      have j1 : joined [T] = T.data.toList := by simp [joined]
      have HMS := Lib.hid (fun W v (hv : SliceOf strS W v [T]) => msum_any x v [T] W hv (by simp [maxLen]) (by rw [j1, Array.length_toList]; exact HSZ.out))
      rw [j1] at HMS
      have HLS := Lib.hid (fun (W : World) => SliceOf.litS W _ rfl [T] 9 1 rfl (by decide) #[.string T] rfl)
      clear j1 hA5
      go_wp2_with fail
      refine (HMS.out _ _ (HLS.out _)).mono ?_
      rintro e W6 ⟨rfl, hb6⟩
      have hA6 := heap_below (heap_alloc_old HA5.out) hb6
      have HB6 := Lib.hid ((HB5.out.alloc hs5 _).trans (hb6.mono (by simp; omega)))
      have HK6 := Lib.hid (fun (p : Value) (l' : List ByteArray) (B : Nat) (t : TreeAt x W5 B p l') => ((t.mono ((Below.refl _ _).alloc (Nat.le_refl _) _)).mono hb6 : TreeAt x W6 B p l'))
      have x1 := cell_of hA6 1
      have f1 := frozen_of hA6 1
      simp at x1
      have HA6 := Lib.hid hA6
      clear hb6 hA6 y0 HMS HLS hs5 hl5
      go_wp2_with fail
      go_ret
      exact ⟨⟨_, rfl, .node _ _ _ _ (Nat.le_refl _) h2 (by rw [htopT.out, show sumB x l = str (Sha.msum x T.data.toList) by unfold sumB; rw [htopT.out]]; exact heap_setCell HA6.out 1 _) (by rw [HKK.out]; exact ((HK6.out _ _ _ HTP5.out).set (Nat.lt_succ_self _) 1 _).base (Nat.le_succ _)) (by rw [HKK.out]; exact ((HK6.out _ _ _ HTQ5.out).set (Nat.lt_succ_self _) 1 _).base (Nat.le_succ _))⟩, below_store HB6.out 1 _⟩
    · match l, h2, hs, HE with
      | [], _, _, _ => exact grown_nil x cap a w
      | [s], _, hs, HE => exact grown_one x s cap a w (Nat.le_trans (hs s (by simp)) hM) HE.out
      | _ :: _ :: _, h2, _, _ => exact absurd (by simp) h2
end Go.Proofs.YtpmgackgcefalaaGreat
namespace Go.Proofs.YtpmgackgcefalaaGreat
open Go.RowKit
theorem first_more (x : Int) (l : List ByteArray) (h : 2 ≤ l.length) : ∃ r, (topB x l).data.toList = 1 :: r := by
  rw [topB_more x l h]
  refine ⟨(str (Sha.msum x (topB x (l.take (Sha.cut l.length))).data.toList)).data.toList ++ (str (Sha.msum x (topB x (l.drop (Sha.cut l.length))).data.toList)).data.toList, ?_⟩
  rw [ByteArray.data_append, ByteArray.data_append, Array.toList_append, Array.toList_append]
  simp
theorem top_more (x : Int) (a b : List ByteArray) (h : topB x a = topB x b) (ha : 2 ≤ a.length) : 2 ≤ b.length := by
  obtain ⟨r, hr⟩ := first_more x a ha
  rw [h] at hr
  match b with
  | [] => rw [topB_nil] at hr; simp at hr
  | [s] => rw [topB_one, ByteArray.data_append, Array.toList_append] at hr; simp at hr
  | _ :: _ :: _ => simp
theorem apart_ne (x : Int) (a b : List ByteArray) (h : topB x a ≠ topB x b) : apartV x a b = some (topB x a, topB x b) := by rw [apartV, if_pos h]
theorem apart_short (x : Int) (a b : List ByteArray) (h : topB x a = topB x b) (hl : a.length < 2) : apartV x a b = none := by rw [apartV, if_neg (by simp [h]), dif_pos hl]
theorem apart_some (x : Int) (a b : List ByteArray) (h : topB x a = topB x b) (hl : 2 ≤ a.length) (r : ByteArray × ByteArray) (hr : apartV x (a.take (Sha.cut a.length)) (b.take (Sha.cut b.length)) = some r) : apartV x a b = some r := by
  rw [apartV, if_neg (by simp [h]), dif_neg (by omega), hr]
theorem apart_none (x : Int) (a b : List ByteArray) (h : topB x a = topB x b) (hl : 2 ≤ a.length) (hr : apartV x (a.take (Sha.cut a.length)) (b.take (Sha.cut b.length)) = none) : apartV x a b = apartV x (a.drop (Sha.cut a.length)) (b.drop (Sha.cut b.length)) := by
  rw [apartV, if_neg (by simp [h]), dif_neg (by omega), hr]
theorem TreeAt.inv {x : Int} {W : World} {B : Nat} {p : Value} {l : List ByteArray} (t : TreeAt x W B p l) (h2 : 2 ≤ l.length) : ∃ g p1 p2, p = .pointer (some ⟨g, 0, none⟩) ∧
    W.heap[g]? = some (.cells #[.string (topB x l), .string (sumB x l), p1, p2] 75 (0, 0)) ∧ TreeAt x W B p1 (l.take (Sha.cut l.length)) ∧ TreeAt x W B p2 (l.drop (Sha.cut l.length)) := by
  cases t with
  | leaf g l hB hl h => omega
  | node g l p q hB hl h hp hq => exact ⟨_, _, _, rfl, h, hp, hq⟩
theorem TreeAt.short {x : Int} {W : World} {B : Nat} {p : Value} {l : List ByteArray} (t : TreeAt x W B p l) (h2 : l.length < 2) : ∃ g, p = .pointer (some ⟨g, 0, none⟩) ∧
    W.heap[g]? = some (.cells #[.string (topB x l), .string (sumB x l), .pointer none, .pointer none] 75 (0, 0)) := by
  cases t with
  | leaf g l hB hl h => exact ⟨_, rfl, h⟩
  | node g l p q hB hl h hp hq => omega
set_option maxRecDepth 100000 in
set_option maxHeartbeats 4000000 in
theorem apart_any (x : Int) : ∀ (n : Nat) (a b : List ByteArray) (p q : Value) (B : Nat) (w : World), a.length = n → TreeAt x w B p a → TreeAt x w B q b →
    Calls Tryz.prog 36 #[p, q] w fun e w' => e = .returned (optTexts (apartV x a b)) ∧ Below w.heap.size w w' := by
  intro n
  induction n using Nat.strongRecOn with
  | ind n IH =>
    intro a b p q B w hn tp tq
    subst hn
    by_cases ht : topB x a = topB x b
    case neg =>
      rw [apart_ne x a b ht]
      obtain ⟨g1, q1, q2, rfl, -, h1⟩ := tp.root
      obtain ⟨g2, q3, q4, rfl, -, h2⟩ := tq.root
      have hb : ((topB x a).toList == (topB x b).toList) = false := by rw [text_beq]; exact decide_eq_false ht
      have y1 := cell_of h1 0
      have y2 := cell_of h2 0
      simp at y1 y2
      simp only [optTexts]
      clear IH tp tq h1 h2 ht
      generalize topB x a = s1 at *
      generalize topB x b = s2 at *
      go_enter Tryz.func36, Tryz.ntmps36
      go_wp2_with fail
      go_quiet (fail)
      have y1' := (Same.drewN w nq).cell y1
      have y2' := (Same.drewN w nq).cell y2
      have HB := Lib.hid ((Same.drewN w nq).below w.heap.size)
      clear y1 y2
      generalize w.drewN nq = w1 at *
      go_wp2_with fail
      go_quiet (fail)
      have HB2 := Lib.hid (HB.out.trans ((Same.drewN w1 nq).below w.heap.size))
      clear HB
      generalize w1.drewN nq = w2 at *
      go_wp2_with fail
      go_ret3
      exact ⟨rfl, HB2.out⟩
    have hb : ((topB x a).toList == (topB x b).toList) = true := by rw [text_beq]; exact decide_eq_true ht
    by_cases hl : a.length < 2
    · rw [apart_short x a b ht hl]
      obtain ⟨g1, rfl, h1⟩ := tp.short hl
      obtain ⟨g2, q3, q4, rfl, -, h2⟩ := tq.root
      have y1 := cell_of h1 0
      have y3 := cell_of h1 2
      have y2 := cell_of h2 0
      simp at y1 y2 y3
      simp only [optTexts]
      clear IH tp tq h1 h2 ht
      generalize topB x a = s1 at *
      generalize topB x b = s2 at *
      go_enter Tryz.func36, Tryz.ntmps36
      go_wp2_with fail
      go_quiet (fail)
      have y3' := (Same.drewN w nq).cell y3
      have HB := Lib.hid ((Same.drewN w nq).below w.heap.size)
      clear y1 y2 y3
      generalize w.drewN nq = w1 at *
      go_wp2_with fail
      go_ret3
      exact ⟨rfl, HB.out⟩
    · have hl2 : 2 ≤ a.length := by omega
      have hlb := top_more x a b ht hl2
      obtain ⟨g1, p1, p2, rfl, h1, t1, t2⟩ := tp.inv hl2
      obtain ⟨g2, q1, q2, rfl, h2, t3, t4⟩ := tq.inv hlb
      have i1 := Lib.hid (fun W (hb : Below w.heap.size w W) => IH (a.take (Sha.cut a.length)).length (by have := Sha.cut_lt a.length hl2; simp; omega) (a.take (Sha.cut a.length)) (b.take (Sha.cut b.length)) p1 q1 B W rfl (t1.mono hb) (t3.mono hb))
      have i2 := Lib.hid (fun W (hb : Below w.heap.size w W) => IH (a.drop (Sha.cut a.length)).length (by have := Sha.cut_pos a.length; simp; omega) (a.drop (Sha.cut a.length)) (b.drop (Sha.cut b.length)) p2 q2 B W rfl (t2.mono hb) (t4.mono hb))
      obtain ⟨gl, _, _, rfl, -, -⟩ := t1.root
      obtain ⟨gr, _, _, rfl, -, -⟩ := t2.root
      obtain ⟨gl2, _, _, rfl, -, -⟩ := t3.root
      obtain ⟨gr2, _, _, rfl, -, -⟩ := t4.root
      have aS := Lib.hid (apart_some x a b ht hl2)
      have aN := Lib.hid (apart_none x a b ht hl2)
      have H1 := Lib.hid h1
      have H2 := Lib.hid h2
      have y1 := cell_of h1 0
      have y2 := cell_of h2 0
      have y3 := cell_of h1 2
      simp at y1 y2 y3
      obtain ⟨V, hV⟩ : ∃ V, V = apartV x a b := ⟨_, rfl⟩
      rw [← hV]
      have HV := Lib.hid hV
      clear IH tp tq h1 h2 ht t1 t2 t3 t4 hV
      generalize apartV x (a.take (Sha.cut a.length)) (b.take (Sha.cut b.length)) = R1 at *
      generalize apartV x (a.drop (Sha.cut a.length)) (b.drop (Sha.cut b.length)) = R2 at *
      generalize topB x a = s1 at *
      generalize topB x b = s2 at *
      go_enter Tryz.func36, Tryz.ntmps36
      go_wp2_with fail
      go_quiet (fail)
      have y3' := (Same.drewN w nq).cell y3
      have hB1 := (Same.drewN w nq).below w.heap.size
      have HB := Lib.hid hB1
      have H1' := Lib.hid (heap_below H1.out hB1)
      have H2' := Lib.hid (heap_below H2.out hB1)
      clear y1 y2 y3 hB1 H1 H2
      generalize w.drewN nq = w1 at *
      go_wp2_with fail
      cases R1
      case some r =>
        simp only [optTexts] at i1
        refine region_pure (by kernel_rfl) (by kernel_rfl) fun I ne f hfb hback => ?_
        have hl1 := lt_of_heap H1'.out
        have hl2' := lt_of_heap H2'.out
        have d1 : ∀ i, (f i).cell? ⟨g1, 2, none⟩ = some (.pointer (some ⟨gl, 0, none⟩)) := fun i => by rw [(hfb i).cell hl1, cell_of H1'.out]; rfl
        have d2 : ∀ i, (f i).cell? ⟨g2, 2, none⟩ = some (.pointer (some ⟨gl2, 0, none⟩)) := fun i => by rw [(hfb i).cell hl2', cell_of H2'.out]; rfl
        have hfb' := Lib.hid hfb
        clear hfb
        repeat (quiet_step ((go_at_call 36; exact pure_of hfb'.out hback (i1.out _ (HB.out.trans ((hfb'.out _).mono HB.out.size))))))
        refine wpQuiet_nil ?_
        intro ix
        have HB2 := Lib.hid (HB.out.trans ((hfb'.out ix).mono HB.out.size))
        have H1a := Lib.hid (heap_below H1'.out (hfb'.out ix))
        have H2a := Lib.hid (heap_below H2'.out (hfb'.out ix))
        generalize f ix = w3 at *
        clear hfb' d1 d2 hback hl1 hl2'
        have e : V = some r := HV.out.trans (aS.out r rfl)
        subst e
        clear aS aN
        go_wp2_with fail
        go_ret3
        exact ⟨rfl, HB2.out⟩
      case none =>
        simp only [optTexts] at i1
        refine region_pure (by kernel_rfl) (by kernel_rfl) fun I ne f hfb hback => ?_
        have hl1 := lt_of_heap H1'.out
        have hl2' := lt_of_heap H2'.out
        have d1 : ∀ i, (f i).cell? ⟨g1, 2, none⟩ = some (.pointer (some ⟨gl, 0, none⟩)) := fun i => by rw [(hfb i).cell hl1, cell_of H1'.out]; rfl
        have d2 : ∀ i, (f i).cell? ⟨g2, 2, none⟩ = some (.pointer (some ⟨gl2, 0, none⟩)) := fun i => by rw [(hfb i).cell hl2', cell_of H2'.out]; rfl
        have hfb' := Lib.hid hfb
        clear hfb
        repeat (quiet_step ((go_at_call 36; exact pure_of hfb'.out hback (i1.out _ (HB.out.trans ((hfb'.out _).mono HB.out.size))))))
        refine wpQuiet_nil ?_
        intro ix
        have HB2 := Lib.hid (HB.out.trans ((hfb'.out ix).mono HB.out.size))
        have H1a := Lib.hid (heap_below H1'.out (hfb'.out ix))
        have H2a := Lib.hid (heap_below H2'.out (hfb'.out ix))
        generalize f ix = w3 at *
        clear hfb' d1 d2 hback hl1 hl2'
        have e : V = R2 := HV.out.trans (aN.out rfl)
        subst e
        clear aS aN
        go_wp2_with fail
        refine region_pure (by kernel_rfl) (by kernel_rfl) fun I ne f hfb hback => ?_
        have hl1 := lt_of_heap H1a.out
        have hl2' := lt_of_heap H2a.out
        have d1 : ∀ i, (f i).cell? ⟨g1, 3, none⟩ = some (.pointer (some ⟨gr, 0, none⟩)) := fun i => by rw [(hfb i).cell hl1, cell_of H1a.out]; rfl
        have d2 : ∀ i, (f i).cell? ⟨g2, 3, none⟩ = some (.pointer (some ⟨gr2, 0, none⟩)) := fun i => by rw [(hfb i).cell hl2', cell_of H2a.out]; rfl
        have hfb' := Lib.hid hfb
        clear hfb
        cases V
        all_goals
          simp only [optTexts] at i2
          repeat (quiet_step ((go_at_call 36; exact pure_of hfb'.out hback (i2.out _ (HB2.out.trans ((hfb'.out _).mono HB2.out.size))))))
          refine wpQuiet_nil ?_
          intro ix
          have HB3 := Lib.hid (HB2.out.trans ((hfb'.out ix).mono HB2.out.size))
          generalize f ix = w4 at *
          clear hfb' d1 d2 hback hl1 hl2'
          go_wp2_with fail
          go_ret3
          exact ⟨rfl, HB3.out⟩
end Go.Proofs.YtpmgackgcefalaaGreat
namespace Go.Proofs.YtpmgackgcefalaaGreat
open Go.RowKit
set_option maxRecDepth 100000 in
set_option maxHeartbeats 4000000 in
theorem leaves_any (x : Int) (a b : List ByteArray) (v1 v2 : Value) (w : World) (M : Nat) (hM : M ≤ 140737488355000) (ha : a.length ≤ 1152921504606846976) (hb : b.length ≤ 1152921504606846976)
    (hsa : ∀ s ∈ a, s.size ≤ M) (hsb : ∀ s ∈ b, s.size ≤ M) (h1 : SliceOf strS w v1 a) (h2 : SliceOf strS w v2 b) :
    Calls Tryz.prog 15 #[.int .i64 x, v1, v2] w fun e w' => e = .returned (optTexts (leavesV x a b)) ∧ Below w.heap.size w w' := by
  have HG1 := Lib.hid (grown_any x M hM a.length a v1 w rfl ha hsa h1)
  have HG2 := Lib.hid (fun W hbw => grown_any x M hM b.length b v2 W rfl hb hsb (h2.mono hbw))
  obtain ⟨V, hV⟩ : ∃ V, V = leavesV x a b := ⟨_, rfl⟩
  rw [← hV]
  unfold leavesV at hV
  have HAP := Lib.hid (fun W p q B (tp : TreeAt x W B p a) (tq : TreeAt x W B q b) => apart_any x a.length a b p q B W rfl tp tq)
  have HV := Lib.hid hV
  clear hV ha hb hsa hsb h1 h2 hM
  go_enter Tryz.func15, Tryz.ntmps15
  go_wp2_with fail
  refine HG1.out.mono ?_
  rintro e w1 ⟨⟨p, rfl, tp⟩, hb1⟩
  have HB1 := Lib.hid hb1
  have TP := Lib.hid tp
  clear hb1 tp HG1
  go_wp2_with fail
  refine (HG2.out _ HB1.out).mono ?_
  rintro e w2 ⟨⟨q, rfl, tq⟩, hb2⟩
  have hs := HB1.out.size
  have TP2 := Lib.hid (TP.out.mono hb2)
  have TQ2 := Lib.hid (tq.base hs)
  have HB2 := Lib.hid (HB1.out.trans (hb2.mono hs))
  clear hb2 tq TP HB1 HG2 hs
  obtain ⟨g1, u1, u2, rfl, -, hh1⟩ := TP2.out.root
  obtain ⟨g2, u3, u4, rfl, -, hh2⟩ := TQ2.out.root
  have y1 := cell_of hh1 1
  have y2 := cell_of hh2 1
  simp at y1 y2
  clear hh1 hh2
  have hV := HV.out
  clear HV
  by_cases hne : sumB x a = sumB x b
  · rw [if_neg (by simp [hne])] at hV
    have hq : ((sumB x a).toList == (sumB x b).toList) = true := by rw [text_beq]; exact decide_eq_true hne
    rw [← hV] at HAP
    clear hne hV
    generalize sumB x a = s1 at *
    generalize sumB x b = s2 at *
    go_wp2_with fail
    go_quiet (fail)
    have HB3 := Lib.hid (HB2.out.trans ((Same.drewN w2 nq).below w.heap.size))
    have TP3 := Lib.hid (TP2.out.mono ((Same.drewN w2 nq).below _))
    have TQ3 := Lib.hid (TQ2.out.mono ((Same.drewN w2 nq).below _))
    clear y1 y2 TP2 TQ2 HB2
    generalize w2.drewN nq = w3 at *
    go_wp2_with fail
    refine (HAP.out _ _ _ _ TP3.out TQ3.out).mono ?_
    rintro e w4 ⟨rfl, hb4⟩
    have HB4 := Lib.hid (HB3.out.trans (hb4.mono HB3.out.size))
    clear hb4 HB3 HAP TP3 TQ3
    cases V
    all_goals
      simp only [optTexts]
      go_wp2_with fail
      go_ret3
      exact ⟨rfl, HB4.out⟩
  · rw [if_pos hne] at hV
    subst hV
    have hq : ((sumB x a).toList == (sumB x b).toList) = false := by rw [text_beq]; exact decide_eq_false hne
    clear hne HAP
    simp only [optTexts]
    generalize sumB x a = s1 at *
    generalize sumB x b = s2 at *
    go_wp2_with fail
    go_quiet (fail)
    have HB3 := Lib.hid (HB2.out.trans ((Same.drewN w2 nq).below w.heap.size))
    clear y1 y2 TP2 TQ2 HB2
    generalize w2.drewN nq = w3 at *
    go_wp2_with fail
    go_ret3
    exact ⟨rfl, HB3.out⟩
end Go.Proofs.YtpmgackgcefalaaGreat
namespace Go.Proofs.YtpmgackgcefalaaGreat
open Go.RowKit
set_option maxHeartbeats 400000 in
theorem rcut_any (n : Nat) (hn : n ≤ 1152921504606846976) (w : World) :
    Calls Tryz.prog 41 #[.int .i64 n] w fun e w' => e = .returned (.int .i64 (Sha.cut n : Nat)) ∧ w' = w := by
  go_enter Tryz.func41, Tryz.ntmps41
  go_wp2_with fail
  go_loopg [3] n (fun f v wr => ∃ c : Nat, v = .int .i64 c ∧ w = wr ∧ Hid (Sha.cutF f c n = Sha.cut n) ∧ 1 ≤ c ∧ c ≤ n + 1 ∧ n + 1 ≤ f + c)
  case atStart => exact ⟨1, rfl, rfl, rfl, by omega, by omega, by omega⟩
  case round =>
    obtain ⟨c, rfl, rfl, hc, h1, h2, h3⟩ := hrel
    by_cases hlt : 2 * c < n
    · have hlt' : (c : Int) * 2 < n := by omega
      obtain ⟨f, rfl⟩ : ∃ f, gk = f + 1 := ⟨gk - 1, by omega⟩
      have hc' : Hid (Sha.cutF f (2 * c) n = Sha.cut n) := by
        have := hc.out
        rw [Sha.cutF, if_pos hlt] at this
        exact this
      clear hc
      go_wp2_with fail
      go_roundg f
      case measure => omega
      case rel => exact ⟨2 * c, by simp; omega, rfl, hc', by omega, by omega, by omega⟩
    · have hlt' : ¬ (c : Int) * 2 < n := by omega
      have hc' : Hid (c = Sha.cut n) := by
        have := hc.out
        cases gk with
        | zero => exact this
        | succ f => rw [Sha.cutF, if_neg hlt] at this; exact this
      clear hc
      go_wp2_with fail
      go_ret
      exact ⟨by rw [← hc'.out]; rfl, rfl⟩
theorem rwidth_any (x : Int) (w : World) :
    Calls Tryz.prog 72 #[.int .i64 x] w fun e w' => e = .returned (.int .i64 (Sha.width x : Nat)) ∧ w' = w := by
  obtain ⟨r, hr⟩ : ∃ r : Nat, r = Sha.width x := ⟨_, rfl⟩
  rw [← hr]
  unfold Sha.width at hr
  by_cases h1 : x < 1
  · have : r = 1 := by omega
    subst this
    clear hr
    go_enter Tryz.func72, Tryz.ntmps72
    go_wp2_with fail
    go_ret
    exact ⟨rfl, rfl⟩
  by_cases h2 : 32 < x
  · have : r = 32 := by omega
    subst this
    clear hr
    go_enter Tryz.func72, Tryz.ntmps72
    go_wp2_with fail
    go_ret
    exact ⟨rfl, rfl⟩
  · have : x = r := by omega
    subst this
    clear hr
    go_enter Tryz.func72, Tryz.ntmps72
    go_wp2_with fail
    go_ret
    exact ⟨rfl, rfl⟩
end Go.Proofs.YtpmgackgcefalaaGreat
namespace Go.Proofs.YtpmgackgcefalaaGreat
open Go.RowKit
def RSumOk : Prop := ∀ (s : ByteArray) (w : World), s.size ≤ 140737488355200 →
  Calls Tryz.prog 71 #[.string s] w fun e w' => e = .returned (.string (str (Sha.sum s.data.toList))) ∧ Below w.heap.size w w'
set_option maxRecDepth 100000 in
theorem rmsum_any (H : RSumOk) (x : Int) (s : ByteArray) (w : World) (hs : s.size ≤ 140737488355200) :
    Calls Tryz.prog 40 #[.int .i64 x, .string s] w fun e w' => e = .returned (.string (str (Sha.msum x s.data.toList))) ∧ Below w.heap.size w w' := by
  have HS := Lib.hid (fun W => H s W hs)
  clear H
  have hl : (str (Sha.sum s.data.toList)).size = 32 := by rw [str_size, Sha.sum_length]
  have hw : Sha.width x ≤ 32 := by unfold Sha.width; omega
  have hfin : str (Sha.msum x s.data.toList) = (str (Sha.sum s.data.toList)).extract 0 (Sha.width x) := by
    rw [str, str, ByteArray.extract_mk]
    rfl
  have HF := Lib.hid hfin
  clear hfin
  generalize str (Sha.sum s.data.toList) = sm at *
  have hw1 : Sha.width x ≤ sm.size := by omega
  have hw2 : ((Sha.width x : Nat) : Int) ≤ sm.size := by omega
  have HL := Lib.hid hl
  clear hl
  go_enter Tryz.func40, Tryz.ntmps40
  go_wp2_with fail
  refine (HS.out _).mono ?_
  rintro e w1 ⟨rfl, hb⟩
  have HB := Lib.hid hb
  clear hb HS
  go_wp2_with fail
  refine (rwidth_any x _).mono ?_
  rintro e w' ⟨rfl, rfl⟩
  go_wp2_with fail
  go_ret
  exact ⟨by rw [HF.out]; rfl, HB.out⟩
set_option maxRecDepth 100000 in
set_option maxHeartbeats 4000000 in
theorem rtop_any (H : RSumOk) (x : Int) (M : Nat) (hM : M ≤ 140737488355000) : ∀ (n : Nat) (l : List ByteArray) (v : Value) (w : World), l.length = n → n ≤ 1152921504606846976 → (∀ s ∈ l, s.size ≤ M) → SliceOf strS w v l →
    Calls Tryz.prog 39 #[.int .i64 x, v] w fun e w' => e = .returned (.string (topB x l)) ∧ Below w.heap.size w w' := by
  intro n
  induction n using Nat.strongRecOn with
  | ind n IH =>
    intro l v w hl hn hs hv
    subst hl
    obtain ⟨a, cap, rfl, he⟩ := hv
    have HE := Lib.hid he
    by_cases h2 : 2 ≤ l.length
    · obtain ⟨b, off, rfl, hblt, cs, hcs, -⟩ := he.at (show 0 < l.length by omega)
      have hck := Sha.cut_lt l.length h2
      have hcp := Sha.cut_pos l.length
      have hcap : l.length ≤ cap := by
        rcases he with ⟨rfl, _⟩ | ⟨_, _, _, _, hh, _⟩
        · simp at h2
        · exact hh
      have HCUT := Lib.hid (fun W => rcut_any l.length (by omega) W)
      have l2 : ¬ (l.length : Int) = 0 := by omega
      have l3 : ¬ (l.length : Int) = 1 := by omega
      have b2 : ((l.length : Int) == 0) = false := beq_eq_false_iff_ne.2 l2
      have b3 : ((l.length : Int) == 1) = false := beq_eq_false_iff_ne.2 l3
      have k0 : (0 : Int) ≤ Sha.cut l.length := by omega
      have k1 : (Sha.cut l.length : Int) ≤ cap := by omega
      have k2 : (Sha.cut l.length : Int) ≤ l.length := by omega
      have k3 : ¬ cap = Sha.cut l.length := by omega
      have HS1 := Lib.hid (SliceOf.take HE.out (Sha.cut l.length) (by omega) hcp)
      have HS2 := Lib.hid (SliceOf.drop HE.out (Sha.cut l.length) hck)
      have t1 : (l.take (Sha.cut l.length)).length = Sha.cut l.length := by simp; omega
      have t2 : (l.drop (Sha.cut l.length)).length = l.length - Sha.cut l.length := by simp
      have I1 := Lib.hid (fun W (hb : Below w.heap.size w W) => IH (Sha.cut l.length) hck (l.take (Sha.cut l.length)) (.slice (some ⟨b, off, none⟩) (Sha.cut l.length) cap) W t1 (by omega) (fun s h => hs s (List.mem_of_mem_take h)) (HS1.out.mono hb))
      have I2 := Lib.hid (fun W (hb : Below w.heap.size w W) => IH (l.length - Sha.cut l.length) (by omega) (l.drop (Sha.cut l.length)) (.slice (some ⟨b, off + Sha.cut l.length, none⟩) (l.length - Sha.cut l.length) (cap - Sha.cut l.length)) W t2 (by omega) (fun s h => hs s (List.mem_of_mem_drop h)) (HS2.out.mono hb))
      have htb : Hid (topB x l = ⟨#[1]⟩ ++ sumB x (l.take (Sha.cut l.length)) ++ sumB x (l.drop (Sha.cut l.length))) := Lib.hid (topB_more x l h2)
      have hsz : ∀ l' : List ByteArray, (∀ s ∈ l', s.size ≤ M) → (topB x l').size ≤ 140737488355200 := fun l' h' => by
        have q1 : (ByteArray.mk #[1]).size = 1 := rfl
        have q0 : (ByteArray.mk #[0]).size = 1 := rfl
        have hw32 : Sha.width x ≤ 32 := by unfold Sha.width; omega
        match l' with
        | [] => rw [topB_nil]; decide
        | [s] => rw [topB_one, ByteArray.size_append]; have := h' s (by simp); omega
        | s :: s' :: r =>
          rw [topB_more x _ (by simp), ByteArray.size_append, ByteArray.size_append, str_size, str_size, msum_length, msum_length]
          omega
      have M1 := Lib.hid (fun W => rmsum_any H x (topB x (l.take (Sha.cut l.length))) W (hsz _ (fun s h => hs s (List.mem_of_mem_take h))))
      have M2 := Lib.hid (fun W => rmsum_any H x (topB x (l.drop (Sha.cut l.length))) W (hsz _ (fun s h => hs s (List.mem_of_mem_drop h))))
      have z1 := sumB_size x (l.take (Sha.cut l.length))
      have z2 := sumB_size x (l.drop (Sha.cut l.length))
      have hw32 : Sha.width x ≤ 32 := by unfold Sha.width; omega
      have q1 : (ByteArray.mk #[1]).size = 1 := rfl
      have p1 : ¬ 9223372036854775807 < 1 + Sha.width x := by omega
      have p2 : ¬ 9223372036854775807 < 1 + Sha.width x + Sha.width x := by omega
      rw [htb.out]
      clear IH HS1 HS2 t1 t2 hs he hcs hsz H hw32 l2 l3
      have N1 : Hid (∀ W, Calls Tryz.prog 40 #[.int .i64 x, .string (topB x (l.take (Sha.cut l.length)))] W fun e w' => e = .returned (.string (sumB x (l.take (Sha.cut l.length)))) ∧ Below W.heap.size W w') := M1
      have N2 : Hid (∀ W, Calls Tryz.prog 40 #[.int .i64 x, .string (topB x (l.drop (Sha.cut l.length)))] W fun e w' => e = .returned (.string (sumB x (l.drop (Sha.cut l.length)))) ∧ Below W.heap.size W w') := M2
      clear M1 M2
      generalize sumB x (l.take (Sha.cut l.length)) = s1 at *
      generalize sumB x (l.drop (Sha.cut l.length)) = s2 at *
      generalize topB x (l.take (Sha.cut l.length)) = r1 at *
      generalize topB x (l.drop (Sha.cut l.length)) = r2 at *
      generalize Sha.cut l.length = k at *
      go_enter Tryz.func39, Tryz.ntmps39
      go_wp2_with fail
      refine (HCUT.out _).mono ?_
      rintro e w1 ⟨rfl, rfl⟩
      go_wp2_with fail
      refine region_pure (by kernel_rfl) (by kernel_rfl) fun I ne f hfb hback => ?_
      have hfb' := Lib.hid hfb
      clear hfb
      repeat (quiet_step (fail))
      quiet_step ((go_at_call 39; exact pure_of hfb'.out hback (I1.out _ (hfb'.out _))))
      repeat (quiet_step (fail))
      quiet_step ((go_at_call 40; exact pure_of hfb'.out hback (N1.out _)))
      repeat (quiet_step (fail))
      quiet_step ((go_at_call 39; exact pure_of hfb'.out hback (I2.out _ (hfb'.out _))))
      repeat (quiet_step (fail))
      quiet_step ((go_at_call 40; exact pure_of hfb'.out hback (N2.out _)))
      repeat (quiet_step (fail))
      refine wpQuiet_nil ?_
      intro ix
      have HB := Lib.hid (hfb'.out ix)
      generalize f ix = w3 at *
      clear hfb' hback
      go_wp2
      go_ret
      exact ⟨rfl, HB.out⟩
    · clear IH H
      match l, h2, hs, HE with
      | [], _, _, _ =>
        rw [topB_nil]
        go_enter Tryz.func39, Tryz.ntmps39
        go_wp2_with fail
        go_ret
        exact ⟨rfl, Below.refl _ _⟩
      | [s], _, hs, HE =>
        obtain ⟨b, off, rfl, hblt, hc⟩ := HE.out.str (show 0 < [s].length by simp)
        simp at hc
        have hss := hs s (by simp)
        have q1 : (ByteArray.mk #[0]).size = 1 := rfl
        have p1 : ¬ 9223372036854775807 < 1 + s.size := by omega
        rw [topB_one]
        clear hs HE hblt
        go_enter Tryz.func39, Tryz.ntmps39
        go_wp2_with fail
        go_ret
        exact ⟨rfl, Below.refl _ _⟩
      | _ :: _ :: _, h2, _, _ => exact absurd (by simp) h2
end Go.Proofs.YtpmgackgcefalaaGreat
namespace Go.Proofs.YtpmgackgcefalaaGreat
open Go.RowKit
theorem sums_eq (x : Int) (a b : List ByteArray) (h : topB x a = topB x b) (ha : 2 ≤ a.length) (hb : 2 ≤ b.length) :
    sumB x (a.take (Sha.cut a.length)) = sumB x (b.take (Sha.cut b.length)) ∧ sumB x (a.drop (Sha.cut a.length)) = sumB x (b.drop (Sha.cut b.length)) := by
  rw [topB_more x a ha, topB_more x b hb] at h
  have h1 := congrArg (fun t : ByteArray => t.data.toList) h
  simp only [ByteArray.data_append, Array.toList_append] at h1
  have l1 : (str (Sha.msum x (topB x (a.take (Sha.cut a.length))).data.toList)).data.toList.length = (str (Sha.msum x (topB x (b.take (Sha.cut b.length))).data.toList)).data.toList.length := by
    show (Sha.msum x _).length = (Sha.msum x _).length
    rw [msum_length, msum_length]
  obtain ⟨h2, h3⟩ := List.append_inj h1 (by simp only [List.length_append]; rw [l1])
  obtain ⟨-, h4⟩ := List.append_inj h2 rfl
  exact ⟨ByteArray.ext (Array.ext' h4), ByteArray.ext (Array.ext' h3)⟩
theorem leaves_eq (x : Int) (a b : List ByteArray) (h : sumB x a = sumB x b) : leavesV x a b = apartV x a b := by unfold leavesV; rw [if_neg (by simp [h])]
theorem top_size (x : Int) (M : Nat) (hM : M ≤ 140737488355000) (l : List ByteArray) (h' : ∀ s ∈ l, s.size ≤ M) : (topB x l).size ≤ 140737488355200 := by
  have q1 : (ByteArray.mk #[1]).size = 1 := rfl
  have q0 : (ByteArray.mk #[0]).size = 1 := rfl
  have hw32 : Sha.width x ≤ 32 := by unfold Sha.width; omega
  match l with
  | [] => rw [topB_nil]; decide
  | [s] => rw [topB_one, ByteArray.size_append]; have := h' s (by simp); omega
  | s :: s' :: r =>
    rw [topB_more x _ (by simp), ByteArray.size_append, ByteArray.size_append, str_size, str_size, msum_length, msum_length]
    omega
theorem cut_facts {w : World} {a : Option Addr} {cap : Nat} {l : List ByteArray} (he : ElemsAt strS w a cap l) (h2 : 2 ≤ l.length) : ∃ b off, a = some ⟨b, off, none⟩ ∧ l.length ≤ cap ∧
    SliceOf strS w (.slice a (Sha.cut l.length) cap) (l.take (Sha.cut l.length)) ∧ SliceOf strS w (.slice (some ⟨b, off + Sha.cut l.length, none⟩) (l.length - Sha.cut l.length) (cap - Sha.cut l.length)) (l.drop (Sha.cut l.length)) := by
  have hck := Sha.cut_lt l.length h2
  have hcp := Sha.cut_pos l.length
  obtain ⟨b, off, rfl, hblt, cs, hcs, -⟩ := he.at (show 0 < l.length by omega)
  refine ⟨b, off, rfl, ?_, SliceOf.take he _ (by omega) hcp, SliceOf.drop he _ hck⟩
  rcases he with ⟨rfl, _⟩ | ⟨_, _, _, _, hh, _⟩
  · simp at h2
  · exact hh
set_option maxRecDepth 100000 in
set_option maxHeartbeats 4000000 in
theorem rleaves_any (H : RSumOk) (x : Int) (M : Nat) (hM : M ≤ 140737488355000) : ∀ (n : Nat) (a b : List ByteArray) (v1 v2 : Value) (w : World), a.length = n → n ≤ 1152921504606846976 → b.length ≤ 1152921504606846976 → (∀ s ∈ a, s.size ≤ M) → (∀ s ∈ b, s.size ≤ M) → SliceOf strS w v1 a → SliceOf strS w v2 b →
    Calls Tryz.prog 19 #[.int .i64 x, v1, v2] w fun e w' => e = .returned (optTexts (leavesV x a b)) ∧ Below w.heap.size w w' := by
  intro n
  induction n using Nat.strongRecOn with
  | ind n IH =>
    intro a b v1 v2 w hn hna hnb hsa hsb h1 h2
    subst hn
    have T1 := Lib.hid (rtop_any H x M hM a.length a v1 w rfl hna hsa h1)
    have T2 := Lib.hid (fun W hw => rtop_any H x M hM b.length b v2 W rfl hnb hsb (h2.mono hw))
    have S1 := Lib.hid (fun W => rmsum_any H x (topB x a) W (top_size x M hM a hsa))
    have S2 := Lib.hid (fun W => rmsum_any H x (topB x b) W (top_size x M hM b hsb))
    have S1 : Hid (∀ W, Calls Tryz.prog 40 #[.int .i64 x, .string (topB x a)] W fun e w' => e = .returned (.string (sumB x a)) ∧ Below W.heap.size W w') := S1
    have S2 : Hid (∀ W, Calls Tryz.prog 40 #[.int .i64 x, .string (topB x b)] W fun e w' => e = .returned (.string (sumB x b)) ∧ Below W.heap.size W w') := S2
    obtain ⟨V, hV⟩ : ∃ V, V = leavesV x a b := ⟨_, rfl⟩
    rw [← hV]
    have HV := Lib.hid hV
    clear hV
    by_cases hne : sumB x a = sumB x b
    case neg =>
      have e : V = none := by rw [HV.out]; unfold leavesV; rw [if_pos hne]
      have hq : ((sumB x a).toList == (sumB x b).toList) = false := by rw [text_beq]; exact decide_eq_false hne
      subst e
      clear HV IH H h1 h2 hsa hsb hne
      simp only [optTexts]
      generalize sumB x a = s1 at *
      generalize sumB x b = s2 at *
      generalize topB x a = t1 at *
      generalize topB x b = t2 at *
      go_enter Tryz.func19, Tryz.ntmps19
      go_wp2_with fail
      refine T1.out.mono ?_
      rintro e w1 ⟨rfl, hb1⟩
      have HB1 := Lib.hid hb1
      clear hb1
      go_wp2_with fail
      refine (T2.out _ HB1.out).mono ?_
      rintro e w2 ⟨rfl, hb2⟩
      have HB2 := Lib.hid (HB1.out.trans (hb2.mono HB1.out.size))
      clear hb2 HB1
      go_wp2_with fail
      refine (S1.out _).mono ?_
      rintro e w3 ⟨rfl, hb3⟩
      have HB3 := Lib.hid (HB2.out.trans (hb3.mono HB2.out.size))
      clear hb3 HB2
      go_wp2_with fail
      refine (S2.out _).mono ?_
      rintro e w4 ⟨rfl, hb4⟩
      have HB4 := Lib.hid (HB3.out.trans (hb4.mono HB3.out.size))
      clear hb4 HB3
      go_wp2_with fail
      go_ret3
      exact ⟨rfl, HB4.out⟩
    have hq : ((sumB x a).toList == (sumB x b).toList) = true := by rw [text_beq]; exact decide_eq_true hne
    have HLE := Lib.hid (leaves_eq x a b hne)
    by_cases htt : topB x a = topB x b
    case neg =>
      have e : V = some (topB x a, topB x b) := by rw [HV.out, HLE.out]; exact apart_ne x a b htt
      have hq2 : ((topB x a).toList == (topB x b).toList) = false := by rw [text_beq]; exact decide_eq_false htt
      subst e
      clear HV HLE IH H h1 h2 hsa hsb hne htt
      simp only [optTexts]
      generalize sumB x a = s1 at *
      generalize sumB x b = s2 at *
      generalize topB x a = t1 at *
      generalize topB x b = t2 at *
      go_enter Tryz.func19, Tryz.ntmps19
      go_wp2_with fail
      refine T1.out.mono ?_
      rintro e w1 ⟨rfl, hb1⟩
      have HB1 := Lib.hid hb1
      clear hb1
      go_wp2_with fail
      refine (T2.out _ HB1.out).mono ?_
      rintro e w2 ⟨rfl, hb2⟩
      have HB2 := Lib.hid (HB1.out.trans (hb2.mono HB1.out.size))
      clear hb2 HB1
      go_wp2_with fail
      refine (S1.out _).mono ?_
      rintro e w3 ⟨rfl, hb3⟩
      have HB3 := Lib.hid (HB2.out.trans (hb3.mono HB2.out.size))
      clear hb3 HB2
      go_wp2_with fail
      refine (S2.out _).mono ?_
      rintro e w4 ⟨rfl, hb4⟩
      have HB4 := Lib.hid (HB3.out.trans (hb4.mono HB3.out.size))
      clear hb4 HB3
      go_wp2_with fail
      go_ret3
      exact ⟨rfl, HB4.out⟩
    have hq2 : ((topB x a).toList == (topB x b).toList) = true := by rw [text_beq]; exact decide_eq_true htt
    by_cases hl : a.length < 2
    · have e : V = none := by rw [HV.out, HLE.out]; exact apart_short x a b htt hl
      have hl' : (a.length : Int) < 2 := by omega
      obtain ⟨a1, c1, rfl, -⟩ := h1
      subst e
      clear HV HLE IH H h2 hsa hsb hne htt
      simp only [optTexts]
      generalize sumB x a = s1 at *
      generalize sumB x b = s2 at *
      generalize topB x a = t1 at *
      generalize topB x b = t2 at *
      go_enter Tryz.func19, Tryz.ntmps19
      go_wp2_with fail
      refine T1.out.mono ?_
      rintro e w1 ⟨rfl, hb1⟩
      have HB1 := Lib.hid hb1
      clear hb1
      go_wp2_with fail
      refine (T2.out _ HB1.out).mono ?_
      rintro e w2 ⟨rfl, hb2⟩
      have HB2 := Lib.hid (HB1.out.trans (hb2.mono HB1.out.size))
      clear hb2 HB1
      go_wp2_with fail
      refine (S1.out _).mono ?_
      rintro e w3 ⟨rfl, hb3⟩
      have HB3 := Lib.hid (HB2.out.trans (hb3.mono HB2.out.size))
      clear hb3 HB2
      go_wp2_with fail
      refine (S2.out _).mono ?_
      rintro e w4 ⟨rfl, hb4⟩
      have HB4 := Lib.hid (HB3.out.trans (hb4.mono HB3.out.size))
      clear hb4 HB3
      go_wp2_with fail
      go_ret3
      exact ⟨rfl, HB4.out⟩
    have hl2 : 2 ≤ a.length := by omega
    have hlb := top_more x a b htt hl2
    obtain ⟨se1, se2⟩ := sums_eq x a b htt hl2 hlb
    have e1 := leaves_eq x _ _ se1
    have e2 := leaves_eq x _ _ se2
    obtain ⟨a1, c1, rfl, he1⟩ := h1
    obtain ⟨a2, c2, rfl, he2⟩ := h2
    obtain ⟨b1, o1, rfl, hc1, u1, u2⟩ := cut_facts he1 hl2
    obtain ⟨b2, o2, rfl, hc2, u3, u4⟩ := cut_facts he2 hlb
    have hk1 := Sha.cut_lt a.length hl2
    have hk2 := Sha.cut_lt b.length hlb
    have hp1 := Sha.cut_pos a.length
    have i1 := Lib.hid (fun W (hw : Below w.heap.size w W) => IH (a.take (Sha.cut a.length)).length (by simp; omega) (a.take (Sha.cut a.length)) (b.take (Sha.cut b.length)) _ _ W rfl (by simp; omega) (by simp; omega) (fun s h => hsa s (List.mem_of_mem_take h)) (fun s h => hsb s (List.mem_of_mem_take h)) (u1.mono hw) (u3.mono hw))
    have i2 := Lib.hid (fun W (hw : Below w.heap.size w W) => IH (a.drop (Sha.cut a.length)).length (by simp; omega) (a.drop (Sha.cut a.length)) (b.drop (Sha.cut b.length)) _ _ W rfl (by simp; omega) (by simp; omega) (fun s h => hsa s (List.mem_of_mem_drop h)) (fun s h => hsb s (List.mem_of_mem_drop h)) (u2.mono hw) (u4.mono hw))
    rw [e1] at i1
    rw [e2] at i2
    have aS := Lib.hid (apart_some x a b htt hl2)
    have aN := Lib.hid (apart_none x a b htt hl2)
    have HV := Lib.hid (HV.out.trans HLE.out)
    have hl' : ¬ (a.length : Int) < 2 := by omega
    have C1 := Lib.hid (fun W => rcut_any a.length hna W)
    have C2 := Lib.hid (fun W => rcut_any b.length hnb W)
    have k0 : (0 : Int) ≤ Sha.cut a.length := by omega
    have k1 : (Sha.cut a.length : Int) ≤ c1 := by omega
    have k2 : (Sha.cut a.length : Int) ≤ a.length := by omega
    have k3 : ¬ c1 = Sha.cut a.length := by omega
    have k4 : (0 : Int) ≤ Sha.cut b.length := by omega
    have k5 : (Sha.cut b.length : Int) ≤ c2 := by omega
    have k6 : (Sha.cut b.length : Int) ≤ b.length := by omega
    have k7 : ¬ c2 = Sha.cut b.length := by omega
    clear HLE IH H hsa hsb hne htt se1 se2 e1 e2 he1 he2 u1 u2 u3 u4
    generalize apartV x (a.take (Sha.cut a.length)) (b.take (Sha.cut b.length)) = R1 at *
    generalize apartV x (a.drop (Sha.cut a.length)) (b.drop (Sha.cut b.length)) = R2 at *
    generalize sumB x a = s1 at *
    generalize sumB x b = s2 at *
    generalize topB x a = t1 at *
    generalize topB x b = t2 at *
    generalize Sha.cut a.length = ka at *
    generalize Sha.cut b.length = kb at *
    go_enter Tryz.func19, Tryz.ntmps19
    go_wp2_with fail
    refine T1.out.mono ?_
    rintro e w1 ⟨rfl, hb1⟩
    have HB1 := Lib.hid hb1
    clear hb1
    go_wp2_with fail
    refine (T2.out _ HB1.out).mono ?_
    rintro e w2 ⟨rfl, hb2⟩
    have HB2 := Lib.hid (HB1.out.trans (hb2.mono HB1.out.size))
    clear hb2 HB1
    go_wp2_with fail
    refine (S1.out _).mono ?_
    rintro e w3 ⟨rfl, hb3⟩
    have HB3 := Lib.hid (HB2.out.trans (hb3.mono HB2.out.size))
    clear hb3 HB2
    go_wp2_with fail
    refine (S2.out _).mono ?_
    rintro e w4 ⟨rfl, hb4⟩
    have HB4 := Lib.hid (HB3.out.trans (hb4.mono HB3.out.size))
    clear hb4 HB3
    go_wp2_with fail
    refine (C1.out _).mono ?_
    rintro e w5 ⟨rfl, rfl⟩
    go_wp2_with fail
    refine (C2.out _).mono ?_
    rintro e w6 ⟨rfl, rfl⟩
    cases R1
    case some r =>
      have e : V = some r := HV.out.trans (aS.out r rfl)
      subst e
      simp only [optTexts] at i1 ⊢
      clear HV aS aN i2
      go_wp2_with fail
      refine region_pure (by kernel_rfl) (by kernel_rfl) fun I ne f hfb hback => ?_
      have hfb' := Lib.hid hfb
      clear hfb
      repeat (quiet_step (fail))
      quiet_step ((go_at_call 19; exact pure_of hfb'.out hback (i1.out _ (HB4.out.trans ((hfb'.out _).mono HB4.out.size)))))
      repeat (quiet_step (fail))
      refine wpQuiet_nil ?_
      intro ix
      have HB5 := Lib.hid (HB4.out.trans ((hfb'.out ix).mono HB4.out.size))
      generalize f ix = w7 at *
      clear hfb' hback
      go_wp2_with fail
      go_ret3
      exact ⟨rfl, HB5.out⟩
    case none =>
      have e : V = R2 := HV.out.trans (aN.out rfl)
      subst e
      simp only [optTexts] at i1
      clear HV aS aN
      go_wp2_with fail
      refine region_pure (by kernel_rfl) (by kernel_rfl) fun I ne f hfb hback => ?_
      have hfb' := Lib.hid hfb
      clear hfb
      repeat (quiet_step (fail))
      quiet_step ((go_at_call 19; exact pure_of hfb'.out hback (i1.out _ (HB4.out.trans ((hfb'.out _).mono HB4.out.size)))))
      repeat (quiet_step (fail))
      refine wpQuiet_nil ?_
      intro ix
      have HB5 := Lib.hid (HB4.out.trans ((hfb'.out ix).mono HB4.out.size))
      generalize f ix = w7 at *
      clear hfb' hback
      go_wp2_with fail
      cases V
      all_goals
        simp only [optTexts] at i2
        refine region_pure (by kernel_rfl) (by kernel_rfl) fun I ne f hfb hback => ?_
        have hfb' := Lib.hid hfb
        clear hfb
        repeat (quiet_step (fail))
        quiet_step ((go_at_call 19; exact pure_of hfb'.out hback (i2.out _ (HB5.out.trans ((hfb'.out _).mono HB5.out.size)))))
        repeat (quiet_step (fail))
        refine wpQuiet_nil ?_
        intro ix
        have HB6 := Lib.hid (HB5.out.trans ((hfb'.out ix).mono HB5.out.size))
        generalize f ix = w8 at *
        clear hfb' hback
        go_wp2_with fail
        go_ret3
        exact ⟨rfl, HB6.out⟩
end Go.Proofs.YtpmgackgcefalaaGreat
namespace Go.Proofs.YtpmgackgcefalaaGreat
open Go.RowKit
def RTagOk : Prop := ∀ (k s : ByteArray) (w : World), k.size ≤ 140737488355000 → s.size ≤ 140737488355000 →
  Calls Tryz.prog 51 #[.string k, .string s] w fun e w' => e = .returned (.string (str (Sha.tag k.data.toList s.data.toList))) ∧ Below w.heap.size w w'
end Go.Proofs.YtpmgackgcefalaaGreat
namespace Go.Proofs.YtpmgackgcefalaaGreat
open Go.RowKit
def ownsB (w : World) (base : Nat) (e : TypeId) (v : Value) (n : Nat) (xs : List Value) : Prop :=
  w.ownsRow base e 1 v n xs ∨
  (xs.length = n ∧ ∃ g cap cur fz, v = .slice (some ⟨g, 0, none⟩) n cap ∧ base ≤ g ∧ w.heap[g]? = some (.cells cur e fz) ∧ cur.size ≤ fz.1 ∧ n ≤ cap ∧ cap ≤ maxLen ∧ cur.size = cap ∧ cur.toList.take n = xs)
theorem ownsB.length {w : World} {base e n : Nat} {v : Value} {xs : List Value} (h : ownsB w base e v n xs) : xs.length = n := by
  rcases h with h | h
  · have := h.1; omega
  · exact h.1
theorem ownsB.le {w : World} {base e n : Nat} {v : Value} {xs : List Value} (h : ownsB w base e v n xs) : n ≤ maxLen := by
  rcases h with h | ⟨_, g, cap, cur, fz, _, _, _, _, h1, h2, _⟩
  · rcases h.2 with ⟨_, rfl⟩ | ⟨g, cap, cur, _, _, _, h1, h2, _⟩
    · exact Nat.zero_le _
    · omega
  · omega
section
variable {P : Program}
end
theorem ownsB.lt {w : World} {base e n : Nat} {v : Value} {xs : List Value} (h : ownsB w base e v n xs) : ∀ k, v.ownBlock = some k → base ≤ k ∧ k < w.heap.size := by
  rcases h with h | ⟨_, g, cap, cur, fz, rfl, hb, hg, _⟩
  · exact h.lt
  · intro k hk
    simp [Value.ownBlock] at hk
    subst hk
    exact ⟨hb, lt_of_heap hg⟩
theorem ownsB.slice {w : World} {base e n : Nat} {v : Value} {xs : List Value} (h : ownsB w base e v n xs) : ∃ a cap, v = .slice a n cap ∧ n ≤ cap := by
  rcases h with h | ⟨_, g, cap, cur, fz, rfl, _, _, _, h1, _⟩
  · rcases h.2 with ⟨rfl, rfl⟩ | ⟨g, cap, cur, rfl, _, _, h1, _⟩
    · exact ⟨none, 0, rfl, Nat.le_refl _⟩
    · exact ⟨_, cap, rfl, h1⟩
  · exact ⟨_, cap, rfl, h1⟩
end Go.Proofs.YtpmgackgcefalaaGreat
namespace Go.Proofs.YtpmgackgcefalaaGreat
open Go.RowKit
theorem rrotr_key (x n m : Nat) (hx : x < 4294967296) (hn1 : 2 ≤ n) (hn : n ≤ 31) (hm : m = 32 - n) :
    bits .or .i64 ((x : Int) / 2 ^ n) (bits .and .i64 (wrap64 ((x : Int) * 2 ^ m)) 4294967295) = (Sha.rotr x n : Nat) := by
  have hp : x * 2 ^ m ≤ 4611686018427387904 := by
    have h1 : 2 ^ m ≤ 2 ^ 30 := Nat.pow_le_pow_right (by decide) (by omega)
    exact Nat.le_trans (Nat.mul_le_mul (Nat.le_of_lt hx) h1) (by decide)
  have e1 : wrap64 ((x : Int) * 2 ^ m) = ((x * 2 ^ m : Nat) : Int) := by
    have e : ((x : Int) * 2 ^ m) = ((x * 2 ^ m : Nat) : Int) := by push_cast; rfl
    rw [e]
    generalize x * 2 ^ m = P at *
    unfold wrap64
    omega
  have e2 : ((x : Int) / 2 ^ n) = ((x / 2 ^ n : Nat) : Int) := by push_cast; rfl
  have h2 : x / 2 ^ n ≤ x := Nat.div_le_self _ _
  have e3 := i64_and_nat (x * 2 ^ m) 4294967295 (by omega) (by omega)
  rw [show x * 2 ^ m &&& 4294967295 = x * 2 ^ m % 4294967296 from Nat.and_two_pow_sub_one_eq_mod _ 32] at e3
  have h3 : x * 2 ^ m % 4294967296 < 4294967296 := Nat.mod_lt _ (by decide)
  rw [e1, e2]
  refine (congrArg (bits .or .i64 ((x / 2 ^ n : Nat) : Int)) e3).trans ?_
  rw [i64_or_nat _ _ (by omega) (by omega)]
  unfold Sha.rotr
  rw [Nat.shiftRight_eq_div_pow, Nat.shiftLeft_eq, hm]
set_option maxRecDepth 100000 in
theorem rrotr_any (x n : Nat) (hx : x < 4294967296) (hn1 : 2 ≤ n) (hn : n ≤ 31) (w : World) :
    Calls Tryz.prog 100 #[.int .i64 x, .int .i64 n] w fun e w' => e = .returned (.int .i64 (Sha.rotr x n : Nat)) ∧ Below w.heap.size w w' := by
  have n0 : (0 : Int) ≤ n := by omega
  have n1 : (n : Int) < 64 := by omega
  obtain ⟨m, hm⟩ : ∃ m : Nat, m = 32 - n := ⟨_, rfl⟩
  have m0 : (32 : Int) - n = m := by omega
  have m1 : (0 : Int) ≤ m := by omega
  have m2 : (m : Int) < 64 := by omega
  have HK := Lib.hid (rrotr_key x n m hx hn1 hn hm)
  clear hm
  go_enter Tryz.func100, Tryz.ntmps100
  go_wp2_with fail
  go_quiet (fail)
  have HB := Lib.hid ((Same.drewN w nq).below w.heap.size)
  generalize w.drewN nq = w1 at *
  go_wp2_with fail
  go_ret
  exact ⟨by rw [← HK.out]; rfl, HB.out⟩
def natV (n : Nat) : Value := .int .i64 n
def w8i (v : Sha.W8) : List Nat := [v.a, v.b, v.c, v.d, v.e, v.f, v.g, v.h]
end Go.Proofs.YtpmgackgcefalaaGreat
namespace Go.Proofs.YtpmgackgcefalaaGreat
open Go.RowKit
def padS (m : List UInt8) (k : Nat) : List UInt8 := m ++ 0x80 :: List.replicate k 0
theorem padS_snoc (m : List UInt8) (k : Nat) : bytesV (padS m k) ++ [byteV 0] = bytesV (padS m (k + 1)) := by
  simp [bytesV, padS, List.replicate_succ']
theorem padS_length (m : List UInt8) (k : Nat) : (padS m k).length = m.length + 1 + k := by
  simp [padS]; omega
theorem pad_byte (n j : Nat) (hn : n ≤ 140737488355200) (hj : j < 8) : Value.int .u8 (bits BinOp.and IntKind.i64 (8 * (n : Int) / 2 ^ (8 * (7 - j))) 255 % 256) = byteV (UInt8.ofNat ((8 * n) >>> (56 - 8 * j))) := by
  have e : (8 * (n : Int) / 2 ^ (8 * (7 - j))) = ((8 * n / 2 ^ (8 * (7 - j)) : Nat) : Int) := by push_cast; rfl
  have hle : 8 * n / 2 ^ (8 * (7 - j)) ≤ 8 * n := Nat.div_le_self _ _
  have e2 := i64_and_nat (8 * n / 2 ^ (8 * (7 - j))) 255 (by omega) (by omega)
  rw [show 8 * n / 2 ^ (8 * (7 - j)) &&& 255 = 8 * n / 2 ^ (8 * (7 - j)) % 256 from Nat.and_two_pow_sub_one_eq_mod _ 8] at e2
  rw [e]
  unfold byteV
  congr 1
  refine (congrArg (· % 256) e2).trans ?_
  rw [UInt8.toNat_ofNat', Nat.shiftRight_eq_div_pow, show 56 - 8 * j = 8 * (7 - j) by omega]
  omega
theorem pad_snoc (q : List UInt8) (n j : Nat) (hn : n ≤ 140737488355200) (hj : j < 8) : bytesV (q ++ (Sha.be8 (8 * n)).take j) ++ [Value.int .u8 (bits BinOp.and IntKind.i64 (8 * (n : Int) / 2 ^ (8 * (7 - j))) 255 % 256)] = bytesV (q ++ (Sha.be8 (8 * n)).take (j + 1)) := by
  rw [pad_byte n j hn hj, List.take_add_one, be8_get _ _ hj]
  simp [bytesV]
end Go.Proofs.YtpmgackgcefalaaGreat
