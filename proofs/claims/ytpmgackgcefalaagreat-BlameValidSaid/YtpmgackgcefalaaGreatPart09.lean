/-
  The walks of the document's answer for layer 26: whether a packet may be.
-/
import Derived.Test.YtpmgackgcefalaaGreatPart08
import Derived.Test.YtpmgackgcefalaaGreatPart06
set_option linter.unusedSimpArgs false
set_option linter.unusedVariables false
set_option linter.unusedSectionVars false
set_option linter.unnecessarySimpa false
set_option linter.defProp false
namespace Go.Proofs.YtpmgackgcefalaaGreat
open Go.RowKit
def IsBool (e : Ending) : Prop := ∃ b : Bool, e = .returned (.bool b)
theorem rsums_any (v : Value) (xs : List ByteArray) (w : World) (h : SliceOf strS w v xs) (hl : xs.length ≤ 140737488355327) :
    Calls Tryz.prog 88 #[v] w fun e w' => IsBool e ∧ w' = w := by
  obtain ⟨a1, c1, rfl, he1⟩ := h
  have H1 := Lib.hid he1
  clear he1
  go_enter Tryz.func88, Tryz.ntmps88
  go_wp2_with fail
  go_loopw [3] (fun i wr => ∃ t : Nat, t ≤ xs.length ∧ i = .int .i64 t ∧ wr = w) (fun i _ => xs.length - (intOf i).toNat)
  case atStart => exact ⟨0, Nat.zero_le _, rfl, rfl⟩
  case round =>
    obtain ⟨t, ht, rfl, rfl⟩ := hrel
    by_cases hlt : t < xs.length
    · have hlt' : (t : Int) < xs.length := by omega
      obtain ⟨g1, o1, rfl, hg1, d1⟩ := H1.out.str hlt
      clear hg1
      by_cases hx : (xs[t].size : Int) = 32
      · go_wp2
        go_roundw
        case rel => exact ⟨t + 1, by omega, by go_num, by simp⟩
        case measure => simp [intOf]; omega
      · have hb : ((xs[t].size : Int) == 32) = false := by simp [hx]
        go_wp2
        go_ret
        exact ⟨⟨_, rfl⟩, rfl⟩
    · have hlt' : ¬ (t : Int) < xs.length := by omega
      go_wp2
      go_ret
      exact ⟨⟨_, rfl⟩, rfl⟩
def offerMay (frm : Int) (text : ByteArray) : Bool := decide (numOk frm 1 = true ∧ htakeErr text = 0)
set_option maxRecDepth 100000 in
set_option maxHeartbeats 2000000 in
theorem rmay_offer (frm : Int) (text : ByteArray) (w : World) :
    Calls Tryz.prog 58 #[.agg (pkC 1 frm 0 0 0 0 text (.slice none 0 0))] w fun e w' => e = .returned (.bool (offerMay frm text)) ∧ Below w.heap.size w w' := by
  obtain ⟨r, hr⟩ : ∃ r, r = offerMay frm text := ⟨_, rfl⟩
  rw [← hr]
  unfold offerMay at hr
  have HR := Lib.hid hr
  clear hr
  have h0 := Lib.hid (CkAt.start w (pkC 1 frm 0 0 0 0 text (.slice none 0 0)))
  simp only [pkC] at h0 ⊢
  go_enter Tryz.func58, Tryz.ntmps58
  go_wp2_with fail
  refine (rword_any frm 1 _).mono ?_
  rintro e w2 ⟨rfl, rfl⟩
  cases hn : numOk frm 1
  · have er : r = false := by rw [HR.out]; exact decide_eq_false (by simp [hn])
    subst er
    go_wp2_with fail
    go_ret
    exact ⟨rfl, h0.out.below⟩
  · go_wp2_with fail
    refine (rhtake_any text _).mono ?_
    rintro e w3 ⟨rfl, hb3⟩
    have K3 := Lib.hid (h0.out.after hb3)
    unfold rhtakeV
    obtain ⟨a, c, d, e, b, f, g, hh⟩ := htakeHead_cells text
    rw [hh]
    have hlt := lt_of_heap K3.out.p
    have X := Lib.hid (fun k => cell_of (heap_alloc_old (o' := .cells #[.int .i64 a, .string b, .int .i64 c, .int .i64 d, .int .i64 e, .string f, .string g] 30 (0, 0)) K3.out.p) k)
    have y2 := X.out 2
    have y3 := X.out 3
    have y4 := X.out 4
    have y5 := X.out 5
    have y7 := X.out 7
    simp at y2 y3 y4 y5 y7
    clear hh hb3 h0 X
    have hB := Lib.hid (fun o => K3.out.below.alloc K3.out.below.size o)
    by_cases he : htakeErr text = 0
    · have er : r = true := by rw [HR.out]; exact decide_eq_true ⟨hn, he⟩
      subst er
      rw [he]
      clear he
      go_wp2_with fail
      go_ret
      exact ⟨rfl, hB.out _⟩
    · have er : r = false := by rw [HR.out]; exact decide_eq_false (by simp [he])
      subst er
      have he' : (htakeErr text == 0) = false := by simp [he]
      go_wp2_with fail
      go_ret
      exact ⟨rfl, hB.out _⟩
def SomeBool (w : World) (e : Ending) (w' : World) : Prop := (∃ b : Bool, e = .returned (.bool b)) ∧ Below w.heap.size w w'
set_option maxRecDepth 100000 in
set_option maxHeartbeats 4000000 in
theorem rmay_two (frm seq id i n : Int) (text : ByteArray) (a : Option Addr) (cap : Nat) (ps : List ByteArray) (w : World) (hel : ElemsAt strS w a cap ps) (hsz : ps.length ≤ 140737488355327) :
    Calls Tryz.prog 58 #[.agg (pkC 2 frm seq id i n text (.slice a ps.length cap))] w (SomeBool w) := by
  have HEL := Lib.hid hel
  clear hel
  have h0 := Lib.hid (CkAt.start w (pkC 2 frm seq id i n text (.slice a ps.length cap)))
  simp only [pkC] at h0 ⊢
  go_enter Tryz.func58, Tryz.ntmps58
  go_wp2_with fail
  refine (rword_any frm 1 _).mono ?_
  rintro e w2 ⟨rfl, rfl⟩
  generalize numOk frm 1 = b
  cases b
  · go_wp2_with fail
    go_ret
    exact ⟨⟨_, rfl⟩, h0.out.below⟩
  go_wp2_with fail
  refine (rword_any id 1 _).mono ?_
  rintro e w2 ⟨rfl, rfl⟩
  generalize numOk id 1 = b
  cases b
  · go_wp2_with fail
    go_ret
    exact ⟨⟨_, rfl⟩, h0.out.below⟩
  go_wp2_with fail
  refine (rword_any seq 0 _).mono ?_
  rintro e w2 ⟨rfl, rfl⟩
  generalize numOk seq 0 = b
  cases b
  · go_wp2_with fail
    go_ret
    exact ⟨⟨_, rfl⟩, h0.out.below⟩
  by_cases c0 : seq = 0
  case neg =>
    have n0 : (seq == 0) = false := beq_eq_false_iff_ne.2 c0
    go_wp2_with fail
    go_ret
    exact ⟨⟨_, rfl⟩, h0.out.below⟩
  have m0 : (seq == 0) = true := beq_iff_eq.2 c0
  clear c0
  by_cases c1 : n = 0
  case neg =>
    have n1 : (n == 0) = false := beq_eq_false_iff_ne.2 c1
    go_wp2_with fail
    go_ret
    exact ⟨⟨_, rfl⟩, h0.out.below⟩
  have m1 : (n == 0) = true := beq_iff_eq.2 c1
  clear c1
  by_cases c2 : 0 ≤ i
  case neg =>
    go_wp2_with fail
    go_ret
    exact ⟨⟨_, rfl⟩, h0.out.below⟩
  by_cases c3 : i ≤ 255
  case neg =>
    go_wp2_with fail
    go_ret
    exact ⟨⟨_, rfl⟩, h0.out.below⟩
  by_cases c4 : (text.size : Int) = 224
  case neg =>
    have n4 : ((text.size : Int) == 224) = false := beq_eq_false_iff_ne.2 c4
    go_wp2_with fail
    go_ret
    exact ⟨⟨_, rfl⟩, h0.out.below⟩
  have m4 : ((text.size : Int) == 224) = true := beq_iff_eq.2 c4
  clear c4
  go_wp2_with fail
  refine (rsums_any _ ps _ ⟨a, cap, rfl, HEL.out.mono h0.out.below⟩ hsz).mono ?_
  rintro e w3 ⟨⟨b, rfl⟩, rfl⟩
  cases b
  · go_wp2_with fail
    go_ret
    exact ⟨⟨_, rfl⟩, h0.out.below⟩
  · go_wp2_with fail
    go_ret
    exact ⟨⟨_, rfl⟩, h0.out.below⟩
set_option maxRecDepth 100000 in
set_option maxHeartbeats 4000000 in
theorem rmay_three (frm seq id i n : Int) (text : ByteArray) (a : Option Addr) (cap : Nat) (ps : List ByteArray) (w : World) (hel : ElemsAt strS w a cap ps) (hsz : ps.length ≤ 140737488355327) :
    Calls Tryz.prog 58 #[.agg (pkC 3 frm seq id i n text (.slice a ps.length cap))] w (SomeBool w) := by
  have HEL := Lib.hid hel
  clear hel
  have h0 := Lib.hid (CkAt.start w (pkC 3 frm seq id i n text (.slice a ps.length cap)))
  simp only [pkC] at h0 ⊢
  go_enter Tryz.func58, Tryz.ntmps58
  go_wp2_with fail
  refine (rword_any frm 1 _).mono ?_
  rintro e w2 ⟨rfl, rfl⟩
  generalize numOk frm 1 = b
  cases b
  · go_wp2_with fail
    go_ret
    exact ⟨⟨_, rfl⟩, h0.out.below⟩
  go_wp2_with fail
  refine (rword_any id 1 _).mono ?_
  rintro e w2 ⟨rfl, rfl⟩
  generalize numOk id 1 = b
  cases b
  · go_wp2_with fail
    go_ret
    exact ⟨⟨_, rfl⟩, h0.out.below⟩
  go_wp2_with fail
  refine (rword_any seq 0 _).mono ?_
  rintro e w2 ⟨rfl, rfl⟩
  generalize numOk seq 0 = b
  cases b
  · go_wp2_with fail
    go_ret
    exact ⟨⟨_, rfl⟩, h0.out.below⟩
  go_wp2_with fail
  refine (rset_any n text _).mono ?_
  rintro e w3 ⟨⟨v, z, rfl⟩, hb3⟩
  have K3 := Lib.hid (h0.out.after hb3)
  have y4 := cell_of K3.out.p 4
  have y5 := cell_of K3.out.p 5
  have y7 := cell_of K3.out.p 7
  simp at y4 y5 y7
  clear hb3 h0
  by_cases c0 : z = 0
  case neg =>
    have n0 : (z == 0) = false := beq_eq_false_iff_ne.2 c0
    go_wp2_with fail
    go_ret
    exact ⟨⟨_, rfl⟩, K3.out.below⟩
  have m0 : (z == 0) = true := beq_iff_eq.2 c0
  clear c0
  by_cases c1 : 0 < n
  case neg =>
    go_wp2_with fail
    go_ret
    exact ⟨⟨_, rfl⟩, K3.out.below⟩
  by_cases c2 : 0 ≤ i
  case neg =>
    go_wp2_with fail
    go_ret
    exact ⟨⟨_, rfl⟩, K3.out.below⟩
  by_cases c3 : i ≤ n
  case neg =>
    go_wp2_with fail
    go_ret
    exact ⟨⟨_, rfl⟩, K3.out.below⟩
  by_cases c4 : (ps.length : Int) = 0
  case neg =>
    have n4 : ((ps.length : Int) == 0) = false := beq_eq_false_iff_ne.2 c4
    go_wp2_with fail
    go_ret
    exact ⟨⟨_, rfl⟩, K3.out.below⟩
  have m4 : ((ps.length : Int) == 0) = true := beq_iff_eq.2 c4
  clear c4
  go_wp2_with fail
  go_ret
  exact ⟨⟨_, rfl⟩, K3.out.below⟩
set_option maxRecDepth 100000 in
set_option maxHeartbeats 4000000 in
theorem rmay_four (frm seq id i n : Int) (text : ByteArray) (a : Option Addr) (cap : Nat) (ps : List ByteArray) (w : World) (hel : ElemsAt strS w a cap ps) (hsz : ps.length ≤ 140737488355327) :
    Calls Tryz.prog 58 #[.agg (pkC 4 frm seq id i n text (.slice a ps.length cap))] w (SomeBool w) := by
  have HEL := Lib.hid hel
  clear hel
  have h0 := Lib.hid (CkAt.start w (pkC 4 frm seq id i n text (.slice a ps.length cap)))
  simp only [pkC] at h0 ⊢
  go_enter Tryz.func58, Tryz.ntmps58
  go_wp2_with fail
  refine (rword_any frm 1 _).mono ?_
  rintro e w2 ⟨rfl, rfl⟩
  generalize numOk frm 1 = b
  cases b
  · go_wp2_with fail
    go_ret
    exact ⟨⟨_, rfl⟩, h0.out.below⟩
  go_wp2_with fail
  refine (rword_any id 1 _).mono ?_
  rintro e w2 ⟨rfl, rfl⟩
  generalize numOk id 1 = b
  cases b
  · go_wp2_with fail
    go_ret
    exact ⟨⟨_, rfl⟩, h0.out.below⟩
  go_wp2_with fail
  refine (rword_any seq 0 _).mono ?_
  rintro e w2 ⟨rfl, rfl⟩
  generalize numOk seq 0 = b
  cases b
  · go_wp2_with fail
    go_ret
    exact ⟨⟨_, rfl⟩, h0.out.below⟩
  by_cases c0 : i = 0
  case neg =>
    have n0 : (i == 0) = false := beq_eq_false_iff_ne.2 c0
    go_wp2_with fail
    go_ret
    exact ⟨⟨_, rfl⟩, h0.out.below⟩
  have m0 : (i == 0) = true := beq_iff_eq.2 c0
  clear c0
  by_cases c1 : n = 0
  case neg =>
    have n1 : (n == 0) = false := beq_eq_false_iff_ne.2 c1
    go_wp2_with fail
    go_ret
    exact ⟨⟨_, rfl⟩, h0.out.below⟩
  have m1 : (n == 0) = true := beq_iff_eq.2 c1
  clear c1
  by_cases c2 : (ps.length : Int) = 0
  case neg =>
    have n2 : ((ps.length : Int) == 0) = false := beq_eq_false_iff_ne.2 c2
    go_wp2_with fail
    go_ret
    exact ⟨⟨_, rfl⟩, h0.out.below⟩
  have m2 : ((ps.length : Int) == 0) = true := beq_iff_eq.2 c2
  clear c2
  by_cases c3 : (text.size : Int) = 32
  case neg =>
    have n3 : ((text.size : Int) == 32) = false := beq_eq_false_iff_ne.2 c3
    go_wp2_with fail
    go_ret
    exact ⟨⟨_, rfl⟩, h0.out.below⟩
  have m3 : ((text.size : Int) == 32) = true := beq_iff_eq.2 c3
  clear c3
  go_wp2_with fail
  go_ret
  exact ⟨⟨_, rfl⟩, h0.out.below⟩
set_option maxRecDepth 100000 in
set_option maxHeartbeats 4000000 in
theorem rmay_none (kind : Int) (k1 : ¬ kind = 1) (k2 : ¬ kind = 2) (k3 : ¬ kind = 3) (k4 : ¬ kind = 4) (frm seq id i n : Int) (text : ByteArray) (a : Option Addr) (cap : Nat) (ps : List ByteArray) (w : World) (hel : ElemsAt strS w a cap ps) (hsz : ps.length ≤ 140737488355327) :
    Calls Tryz.prog 58 #[.agg (pkC kind frm seq id i n text (.slice a ps.length cap))] w (SomeBool w) := by
  have HEL := Lib.hid hel
  clear hel
  have h0 := Lib.hid (CkAt.start w (pkC kind frm seq id i n text (.slice a ps.length cap)))
  simp only [pkC] at h0 ⊢
  have b1 : (kind == 1) = false := by simp [k1]
  have b2 : (kind == 2) = false := by simp [k2]
  have b3 : (kind == 3) = false := by simp [k3]
  have b4 : (kind == 4) = false := by simp [k4]
  go_enter Tryz.func58, Tryz.ntmps58
  go_wp2_with fail
  refine (rword_any frm 1 _).mono ?_
  rintro e w2 ⟨rfl, rfl⟩
  generalize numOk frm 1 = b
  cases b
  · go_wp2_with fail
    go_ret
    exact ⟨⟨_, rfl⟩, h0.out.below⟩
  go_wp2_with fail
  refine (rword_any id 1 _).mono ?_
  rintro e w2 ⟨rfl, rfl⟩
  generalize numOk id 1 = b
  cases b
  · go_wp2_with fail
    go_ret
    exact ⟨⟨_, rfl⟩, h0.out.below⟩
  go_wp2_with fail
  refine (rword_any seq 0 _).mono ?_
  rintro e w2 ⟨rfl, rfl⟩
  generalize numOk seq 0 = b
  cases b
  · go_wp2_with fail
    go_ret
    exact ⟨⟨_, rfl⟩, h0.out.below⟩
  go_wp2_with fail
  go_ret
  exact ⟨⟨_, rfl⟩, h0.out.below⟩
theorem rmay_any (kind frm seq id i n : Int) (text : ByteArray) (sl : Value) (ps : List ByteArray) (hk : kind ≠ 1) (w : World) (hsl : SliceOf strS w sl ps) (hsz : ps.length ≤ 140737488355327) :
    Calls Tryz.prog 58 #[.agg (pkC kind frm seq id i n text sl)] w (SomeBool w) := by
  obtain ⟨a, cap, rfl, hel⟩ := hsl
  by_cases h2 : kind = 2
  · subst h2; exact rmay_two frm seq id i n text a cap ps w hel hsz
  by_cases h3 : kind = 3
  · subst h3; exact rmay_three frm seq id i n text a cap ps w hel hsz
  by_cases h4 : kind = 4
  · subst h4; exact rmay_four frm seq id i n text a cap ps w hel hsz
  exact rmay_none kind hk h2 h3 h4 frm seq id i n text a cap ps w hel hsz
end Go.Proofs.YtpmgackgcefalaaGreat
