/-
  What this theorem needs beside.
-/
import Derived.Test.YtpmgackgcefalaaGreatPart01
import Derived.Test.YtpmgackgcefalaaGreatPart02
import Derived.Test.YtpmgackgcefalaaGreatPart03
import Derived.Test.YtpmgackgcefalaaGreatPart04
import Derived.Test.YtpmgackgcefalaaGreatPart05
import Derived.Test.YtpmgackgcefalaaGreatPart06
import Derived.Test.YtpmgackgcefalaaGreatPart07
import Derived.Test.YtpmgackgcefalaaGreatPart08
import Derived.Test.YtpmgackgcefalaaGreatPart09
import Derived.Test.YtpmgackgcefalaaGreatPart10
import Derived.Test.YtpmgackgcefalaaGreatPart11
import Derived.Test.YtpmgackgcefalaaGreatPart12
import Derived.Test.YtpmgackgcefalaaGreatPart13
import Derived.Test.YtpmgackgcefalaaGreatPart14
set_option linter.unusedSimpArgs false
set_option linter.unusedVariables false
set_option linter.unusedSectionVars false
set_option linter.unnecessarySimpa false
set_option linter.defProp false
namespace Go.Proofs.YtpmgackgcefalaaGreat
open Go.RowKit
end Go.Proofs.YtpmgackgcefalaaGreat
namespace Go.Proofs.YtpmgackgcefalaaGreat
open Go.RowKit
end Go.Proofs.YtpmgackgcefalaaGreat
namespace Go.Proofs.YtpmgackgcefalaaGreat
open Go.RowKit
end Go.Proofs.YtpmgackgcefalaaGreat
namespace Go.Proofs.YtpmgackgcefalaaGreat
open Go.RowKit
section
variable {P : Program} {md : Region.Mode} {ops : Array Oper} {C : World → Prop}
end
end Go.Proofs.YtpmgackgcefalaaGreat
namespace Go.Proofs.YtpmgackgcefalaaGreat
open Go.RowKit
end Go.Proofs.YtpmgackgcefalaaGreat
namespace Go.Proofs.YtpmgackgcefalaaGreat
open Go.RowKit
end Go.Proofs.YtpmgackgcefalaaGreat
namespace Go.Proofs.YtpmgackgcefalaaGreat
open Go.RowKit
end Go.Proofs.YtpmgackgcefalaaGreat
namespace Go.Proofs.YtpmgackgcefalaaGreat.Sha
end Go.Proofs.YtpmgackgcefalaaGreat.Sha
namespace Go.Proofs.YtpmgackgcefalaaGreat
open Go.RowKit
end Go.Proofs.YtpmgackgcefalaaGreat
namespace Go.Proofs.YtpmgackgcefalaaGreat
open Go.RowKit
end Go.Proofs.YtpmgackgcefalaaGreat
namespace Go.Proofs.YtpmgackgcefalaaGreat
open Go.RowKit
end Go.Proofs.YtpmgackgcefalaaGreat
namespace Go.Proofs.YtpmgackgcefalaaGreat.Abs
open Go Go.RowKit
section
variable {P : Program} {n : Nat} {Q : Exit → AL → Mem → Prop} {f : AL} {m : Mem}
end
theorem str_zero : Tryz.t9.zero = some (.string ⟨#[]⟩) := rfl
theorem new_str (x : ByteArray) : nBuildSlice Tryz.prog 23 1 [(0, .string x)] = some (.cells false 1 [.string x]) :=
  new_one Tryz.underlying23 inf_str str_zero str_size rfl rfl rfl _ rfl rfl
end Go.Proofs.YtpmgackgcefalaaGreat.Abs
namespace Go.Proofs.YtpmgackgcefalaaGreat.Abs
open Go Go.RowKit
section
variable {P : Program} {m : Mem} {B : Nat} {t : TypeId} {cs : List Value}
end
end Go.Proofs.YtpmgackgcefalaaGreat.Abs
namespace Go.Proofs.YtpmgackgcefalaaGreat
open Go.RowKit
end Go.Proofs.YtpmgackgcefalaaGreat
namespace Go.Proofs.YtpmgackgcefalaaGreat
open Go.RowKit
end Go.Proofs.YtpmgackgcefalaaGreat
namespace Go.Proofs.YtpmgackgcefalaaGreat
open Go.RowKit
end Go.Proofs.YtpmgackgcefalaaGreat
namespace Go.Proofs.YtpmgackgcefalaaGreat
open Go.RowKit
end Go.Proofs.YtpmgackgcefalaaGreat
namespace Go.Proofs.YtpmgackgcefalaaGreat
open Go.RowKit
noncomputable def hasText (xs : List ByteArray) (x : ByteArray) : Bool := @decide (x ∈ xs) (Classical.propDecidable _)
theorem contains_str (v : Value) (xs : List ByteArray) (x : ByteArray) (w : World) (h : SliceOf strS w v xs) (hl : xs.length ≤ 140737488355327) :
    Calls Tryz.prog 20 #[v, .string x] w fun e w' => e = .returned (.bool (hasText xs x)) ∧ w' = w := by
  obtain ⟨r, hr⟩ : ∃ r, r = hasText xs x := ⟨_, rfl⟩
  rw [← hr]
  have HR := Lib.hid hr
  clear hr
  have HI := Lib.hid (index_str v xs x w h hl)
  clear h
  go_enter Tryz.func20, Tryz.ntmps20
  go_wp2_with fail
  refine HI.out.mono ?_
  rintro e w1 ⟨⟨i, rfl, hi⟩, rfl⟩
  by_cases h0 : 0 ≤ i
  · have e : r = true := by rw [HR.out]; exact @decide_eq_true _ (Classical.propDecidable _) (hi.1 h0)
    subst e
    clear hi
    go_wp2_with fail
    go_ret
    exact ⟨rfl, rfl⟩
  · have e : r = false := by rw [HR.out]; exact @decide_eq_false _ (Classical.propDecidable _) (fun h => h0 (hi.2 h))
    subst e
    have h0' : decide (0 ≤ i) = false := decide_eq_false h0
    clear hi
    go_wp2_with fail
    go_ret
    exact ⟨rfl, rfl⟩
end Go.Proofs.YtpmgackgcefalaaGreat
namespace Go.Proofs.YtpmgackgcefalaaGreat
open Go.RowKit
set_option maxRecDepth 100000 in
set_option maxHeartbeats 1000000 in
theorem rfields_any (h : Header) (hok : h.okP) (hs : h.salt.size ≤ 140737488355327) (hr : h.root.size ≤ 140737488355327) (w : World) :
    Calls Tryz.prog 52 #[h.val] w fun e w' => e = .returned (.string h.fields) ∧ Below w.heap.size w w' := by
  obtain ⟨id, salt, n, bytes, raw, root, tag⟩ := h
  simp only [Header.val, Header.fields, Header.okP] at *
  have k1 : 0 ≤ id ∧ id < 4611686018427387904 := by omega
  have k2 : 0 ≤ n ∧ n < 4611686018427387904 := by omega
  have k3 : 0 ≤ bytes ∧ bytes < 4611686018427387904 := by omega
  have k4 : 0 ≤ raw ∧ raw < 4611686018427387904 := by omega
  clear hok
  go_enter Tryz.func52, Tryz.ntmps52
  go_wp2_with fail
  refine region_pure (by kernel_rfl) (by kernel_rfl) fun I ne f hfb hback => ?_
  have hA := heap_alloc_new w (.cells #[.int .i64 id, .string salt, .int .i64 n, .int .i64 bytes, .int .i64 raw, .string root, .string tag] 30 (0, 0))
  have d0 : ∀ i, (f i).cell? ⟨w.heap.size, 0, none⟩ = some (.int .i64 id) := fun i => by rw [(hfb i).cell (by simp), cell_of hA]; rfl
  have d1 : ∀ i, (f i).cell? ⟨w.heap.size, 1, none⟩ = some (.string salt) := fun i => by rw [(hfb i).cell (by simp), cell_of hA]; rfl
  have d2 : ∀ i, (f i).cell? ⟨w.heap.size, 2, none⟩ = some (.int .i64 n) := fun i => by rw [(hfb i).cell (by simp), cell_of hA]; rfl
  have d3 : ∀ i, (f i).cell? ⟨w.heap.size, 3, none⟩ = some (.int .i64 bytes) := fun i => by rw [(hfb i).cell (by simp), cell_of hA]; rfl
  have d4 : ∀ i, (f i).cell? ⟨w.heap.size, 4, none⟩ = some (.int .i64 raw) := fun i => by rw [(hfb i).cell (by simp), cell_of hA]; rfl
  have d5 : ∀ i, (f i).cell? ⟨w.heap.size, 5, none⟩ = some (.string root) := fun i => by rw [(hfb i).cell (by simp), cell_of hA]; rfl
  have q1 : (str (Sha.fixed id 4)).size = 4 := by rw [str_size, Sha.fixed_length]
  have q2 : (str (Sha.fixed n 2)).size = 2 := by rw [str_size, Sha.fixed_length]
  have q3 : (str (Sha.fixed bytes 4)).size = 4 := by rw [str_size, Sha.fixed_length]
  have q4 : (str (Sha.fixed raw 4)).size = 4 := by rw [str_size, Sha.fixed_length]
  have q0 : (ByteArray.mk #[83, 76, 71, 49]).size = 4 := rfl
  have p1 : ¬ (9223372036854775807 < 8 + salt.size) := by omega
  have p2 : ¬ (9223372036854775807 < 8 + salt.size + 2) := by omega
  have p3 : ¬ (9223372036854775807 < 8 + salt.size + 2 + 4) := by omega
  have p4 : ¬ (9223372036854775807 < 8 + salt.size + 2 + 4 + 4) := by omega
  have p5 : ¬ (9223372036854775807 < 8 + salt.size + 2 + 4 + 4 + root.size) := by omega
  have hfb' := Lib.hid hfb
  clear hfb hA
  repeat (quiet_step ((go_at_call 59; exact pure_of hfb'.out hback (rfixed_i _ _ (by omega) (by omega) (by decide) (by decide) _))))
  refine wpQuiet_nil ?_
  intro i
  have hbi := hfb'.out i
  generalize f i = w3 at *
  have HB := Lib.hid (((Below.refl w.heap.size w).alloc (Nat.le_refl _) _).trans (hbi.mono (by simp)))
  clear hfb' d0 d1 d2 d3 d4 d5 hback hbi
  go_wp2
  go_ret
  exact ⟨rfl, HB.out⟩
end Go.Proofs.YtpmgackgcefalaaGreat
namespace Go.Proofs.YtpmgackgcefalaaGreat
open Go.RowKit
end Go.Proofs.YtpmgackgcefalaaGreat
namespace Go.Proofs.YtpmgackgcefalaaGreat
open Go.RowKit
end Go.Proofs.YtpmgackgcefalaaGreat
namespace Go.Proofs.YtpmgackgcefalaaGreat
open Go.RowKit
end Go.Proofs.YtpmgackgcefalaaGreat
namespace Go.Proofs.YtpmgackgcefalaaGreat
open Go.RowKit
end Go.Proofs.YtpmgackgcefalaaGreat
namespace Go.Proofs.YtpmgackgcefalaaGreat
open Go.RowKit
end Go.Proofs.YtpmgackgcefalaaGreat
namespace Go.Proofs.YtpmgackgcefalaaGreat
open Go.RowKit
end Go.Proofs.YtpmgackgcefalaaGreat
namespace Go.Proofs.YtpmgackgcefalaaGreat
open Go.RowKit
end Go.Proofs.YtpmgackgcefalaaGreat
namespace Go.Proofs.YtpmgackgcefalaaGreat
open Go.RowKit
end Go.Proofs.YtpmgackgcefalaaGreat
namespace Go.Proofs.YtpmgackgcefalaaGreat
open Go.RowKit
end Go.Proofs.YtpmgackgcefalaaGreat
namespace Go.Proofs.YtpmgackgcefalaaGreat
open Go.RowKit
end Go.Proofs.YtpmgackgcefalaaGreat
namespace Go.Proofs.YtpmgackgcefalaaGreat
open Go.RowKit
def clashB (x : Int) (a b : ByteArray) : Bool := decide (a ≠ b ∧ str (Sha.msum x a.data.toList) = str (Sha.msum x b.data.toList))
set_option maxRecDepth 100000 in
set_option maxHeartbeats 1000000 in
theorem cvalid_any (x : Int) (a b : ByteArray) (w : World) (ha : a.size ≤ 140737488355200) (hb : b.size ≤ 140737488355200) :
    Calls Tryz.prog 23 #[.int .i64 x, .string a, .string b] w fun e w' => e = .returned (.bool (clashB x a b)) ∧ Below w.heap.size w w' := by
  obtain ⟨r, hr⟩ : ∃ r, r = clashB x a b := ⟨_, rfl⟩
  rw [← hr]
  have HR := Lib.hid hr
  clear hr
  have j1 : joined [a] = a.data.toList := by simp [joined]
  have j2 : joined [b] = b.data.toList := by simp [joined]
  have HA := Lib.hid (fun W v (hv : SliceOf strS W v [a]) => msum_any x v [a] W hv (by simp [maxLen]) (by rw [j1, Array.length_toList]; exact ha))
  have HB := Lib.hid (fun W v (hv : SliceOf strS W v [b]) => msum_any x v [b] W hv (by simp [maxLen]) (by rw [j2, Array.length_toList]; exact hb))
  rw [j1] at HA
  rw [j2] at HB
  clear j1 j2
  by_cases hab : a = b
  · have e : r = false := by rw [HR.out]; exact decide_eq_false (fun h => h.1 hab)
    have hq : (a.toList == b.toList) = true := by rw [text_beq]; exact decide_eq_true hab
    subst e
    clear hab
    go_enter Tryz.func23, Tryz.ntmps23
    go_wp2_with fail
    go_ret
    exact ⟨rfl, Below.refl _ _⟩
  have hq : (a.toList == b.toList) = false := by rw [text_beq]; exact decide_eq_false hab
  have hc : r = decide (str (Sha.msum x a.data.toList) = str (Sha.msum x b.data.toList)) := by rw [HR.out]; unfold clashB; simp [hab]
  have HC := Lib.hid hc
  clear hab hc HR
  have HS := Lib.hid (fun (s : ByteArray) (W : World) => SliceOf.litS W _ rfl [s] 9 1 rfl (by decide) #[.string s] rfl)
  generalize str (Sha.msum x a.data.toList) = sa at *
  generalize str (Sha.msum x b.data.toList) = sb at *
  go_enter Tryz.func23, Tryz.ntmps23
  go_wp2_with fail
  refine (HA.out _ _ (HS.out a _)).mono ?_
  rintro e w1 ⟨rfl, hb1⟩
  have K1 := Lib.hid (((Below.refl w.heap.size w).alloc (Nat.le_refl _) _).trans (hb1.mono (by simp)))
  have hs1 := K1.out.size
  clear hb1
  go_wp2_with fail
  refine (HB.out _ _ (HS.out b _)).mono ?_
  rintro e w2 ⟨rfl, hb2⟩
  have K2 := Lib.hid ((K1.out.alloc hs1 _).trans (hb2.mono (by simp; omega)))
  clear hb2 K1
  by_cases hss : sa = sb
  · have hq2 : (sa.toList == sb.toList) = true := by rw [text_beq]; exact decide_eq_true hss
    have e : r = true := by rw [HC.out]; exact decide_eq_true hss
    subst e
    clear hss HC
    go_wp2_with fail
    go_ret
    exact ⟨rfl, K2.out⟩
  · have hq2 : (sa.toList == sb.toList) = false := by rw [text_beq]; exact decide_eq_false hss
    have e : r = false := by rw [HC.out]; exact decide_eq_false hss
    subst e
    clear hss HC
    go_wp2_with fail
    go_ret
    exact ⟨rfl, K2.out⟩
end Go.Proofs.YtpmgackgcefalaaGreat
namespace Go.Proofs.YtpmgackgcefalaaGreat
open Go.RowKit
end Go.Proofs.YtpmgackgcefalaaGreat
namespace Go.Proofs.YtpmgackgcefalaaGreat
open Go.RowKit
end Go.Proofs.YtpmgackgcefalaaGreat
namespace Go.Proofs.YtpmgackgcefalaaGreat
open Go.RowKit
end Go.Proofs.YtpmgackgcefalaaGreat
namespace Go.Proofs.YtpmgackgcefalaaGreat
open Go.RowKit
end Go.Proofs.YtpmgackgcefalaaGreat
namespace Go.Proofs.YtpmgackgcefalaaGreat
open Go.RowKit
set_option maxRecDepth 100000 in
set_option maxHeartbeats 1000000 in
theorem rcvalid_any (H : RSumOk) (x : Int) (a b : ByteArray) (w : World) (ha : a.size ≤ 140737488355200) (hb : b.size ≤ 140737488355200) :
    Calls Tryz.prog 24 #[.int .i64 x, .string a, .string b] w fun e w' => e = .returned (.bool (clashB x a b)) ∧ Below w.heap.size w w' := by
  obtain ⟨r, hr⟩ : ∃ r, r = clashB x a b := ⟨_, rfl⟩
  rw [← hr]
  have HR := Lib.hid hr
  clear hr
  have HA := Lib.hid (fun W => rmsum_any H x a W ha)
  have HB := Lib.hid (fun W => rmsum_any H x b W hb)
  clear H
  by_cases hab : a = b
  · have e : r = false := by rw [HR.out]; exact decide_eq_false (fun h => h.1 hab)
    have hq : (a.toList == b.toList) = true := by rw [text_beq]; exact decide_eq_true hab
    subst e
    clear hab
    go_enter Tryz.func24, Tryz.ntmps24
    go_wp2_with fail
    go_ret
    exact ⟨rfl, Below.refl _ _⟩
  have hq : (a.toList == b.toList) = false := by rw [text_beq]; exact decide_eq_false hab
  have hc : r = decide (str (Sha.msum x a.data.toList) = str (Sha.msum x b.data.toList)) := by rw [HR.out]; unfold clashB; simp [hab]
  have HC := Lib.hid hc
  clear hab hc HR
  generalize str (Sha.msum x a.data.toList) = sa at *
  generalize str (Sha.msum x b.data.toList) = sb at *
  go_enter Tryz.func24, Tryz.ntmps24
  go_wp2_with fail
  refine (HA.out _).mono ?_
  rintro e w1 ⟨rfl, hb1⟩
  have K1 := Lib.hid hb1
  clear hb1
  go_wp2_with fail
  refine (HB.out _).mono ?_
  rintro e w2 ⟨rfl, hb2⟩
  have K2 := Lib.hid (K1.out.trans (hb2.mono K1.out.size))
  clear hb2 K1
  by_cases hss : sa = sb
  · have hq2 : (sa.toList == sb.toList) = true := by rw [text_beq]; exact decide_eq_true hss
    have e : r = true := by rw [HC.out]; exact decide_eq_true hss
    subst e
    clear hss HC
    go_wp2_with fail
    go_ret
    exact ⟨rfl, K2.out⟩
  · have hq2 : (sa.toList == sb.toList) = false := by rw [text_beq]; exact decide_eq_false hss
    have e : r = false := by rw [HC.out]; exact decide_eq_false hss
    subst e
    clear hss HC
    go_wp2_with fail
    go_ret
    exact ⟨rfl, K2.out⟩
end Go.Proofs.YtpmgackgcefalaaGreat
namespace Go.Proofs.YtpmgackgcefalaaGreat
open Go.RowKit
end Go.Proofs.YtpmgackgcefalaaGreat
namespace Go.Proofs.YtpmgackgcefalaaGreat
open Go.RowKit
theorem Header.verify_may (h : Header) (key : List UInt8) : h.verify key = if h.may = true then (if str (Sha.tag key h.fields.data.toList) = h.tag then 0 else 4) else 1 := by
  unfold Header.verify Header.may
  have hs : sameB (Sha.tag key h.fields.data.toList) h.tag.data.toList = true ↔ str (Sha.tag key h.fields.data.toList) = h.tag := by
    unfold sameB
    rw [decide_eq_true_eq]
    constructor
    · intro x
      apply ByteArray.ext
      apply Array.ext'
      rw [← x]; rfl
    · intro x
      rw [← x]; rfl
  rcases h.check_cases with hc | ⟨hc, -⟩
  · simp [hc]
  · by_cases hx : sameB (Sha.tag key h.fields.data.toList) h.tag.data.toList = true
    · simp [hc, hx, hs.1 hx]
    · have hy : ¬ str (Sha.tag key h.fields.data.toList) = h.tag := fun y => hx (hs.2 y)
      simp [hc, hx, hy]
set_option maxRecDepth 100000 in
set_option maxHeartbeats 2000000 in
theorem rverify_any (H : RTagOk) (key : ByteArray) (h : Header) (w : World) (hk : key.size ≤ 140737488355000) :
    Calls Tryz.prog 25 #[.string key, h.val] w fun e w' => e = .returned (.int .i64 (h.verify key.data.toList)) ∧ Below w.heap.size w w' := by
  have HM := Lib.hid (fun W => may_any h W)
  obtain ⟨r, hr⟩ : ∃ r, r = h.verify key.data.toList := ⟨_, rfl⟩
  rw [← hr]
  rw [Header.verify_may] at hr
  have hzero := h.check_zero
  by_cases hmay : h.may = true
  case neg =>
    rw [if_neg hmay] at hr
    have hmf : h.may = false := by cases hh : h.may <;> simp_all
    rw [hmf] at HM
    subst hr
    clear hzero hmay hmf H
    obtain ⟨id, salt, n, bytes, raw, root, tag⟩ := h
    simp only [Header.val] at *
    have hB := Lib.hid ((Below.refl w.heap.size w).alloc (Nat.le_refl _) (.cells #[.int .i64 id, .string salt, .int .i64 n, .int .i64 bytes, .int .i64 raw, .string root, .string tag] 30 (0, 0)))
    go_enter Tryz.func25, Tryz.ntmps25
    go_wp2_with fail
    refine (HM.out _).mono ?_
    rintro e w1 ⟨rfl, hb1⟩
    have HB1 := Lib.hid (hB.out.trans (hb1.mono hB.out.size))
    clear hb1
    go_wp2_with fail
    go_ret
    exact ⟨rfl, HB1.out⟩
  have hok : h.okP := hzero.1 (by unfold Header.may at hmay; exact of_decide_eq_true hmay)
  rw [if_pos hmay] at hr
  rw [hmay] at HM
  have HF := Lib.hid (fun W => rfields_any h hok (by have := hok.2.2.1; omega) (by have := hok.2.2.2.1; omega) W)
  have fs := h.fields_size
  have HT := Lib.hid (fun W => H key h.fields W hk (by have := hok.2.2.1; have := hok.2.2.2.1; omega))
  clear hzero hmay hok fs H
  generalize h.fields = fl at *
  obtain ⟨id, salt, n, bytes, raw, root, tag⟩ := h
  simp only [Header.val] at *
  generalize str (Sha.tag key.data.toList fl.data.toList) = tg at *
  have HR := Lib.hid hr
  clear hr
  have hB := Lib.hid ((Below.refl w.heap.size w).alloc (Nat.le_refl _) (.cells #[.int .i64 id, .string salt, .int .i64 n, .int .i64 bytes, .int .i64 raw, .string root, .string tag] 30 (0, 0)))
  have hA := heap_alloc_new w (.cells #[.int .i64 id, .string salt, .int .i64 n, .int .i64 bytes, .int .i64 raw, .string root, .string tag] 30 (0, 0))
  have HA := Lib.hid hA
  clear hA
  go_enter Tryz.func25, Tryz.ntmps25
  go_wp2_with fail
  refine (HM.out _).mono ?_
  rintro e w1 ⟨rfl, hb1⟩
  have HA1 := heap_below HA.out hb1
  have HB1 := Lib.hid (hB.out.trans (hb1.mono hB.out.size))
  have hs1 := HB1.out.size
  clear hb1
  go_wp2_with fail
  have hR := HR.out
  clear HR
  by_cases hx : tg = tag
  · rw [if_pos hx] at hR
    have hq : (tg.toList == tag.toList) = true := by rw [text_beq]; exact decide_eq_true hx
    subst hR
    clear hx
    refine region_pure (by kernel_rfl) (by kernel_rfl) fun I ne f hfb hback => ?_
    have hlt := lt_of_heap HA1
    have d0 : ∀ i, (f i).cell? ⟨w.heap.size, 0, none⟩ = some (.int .i64 id) := fun i => by rw [(hfb i).cell hlt, cell_of HA1]; rfl
    have d1 : ∀ i, (f i).cell? ⟨w.heap.size, 1, none⟩ = some (.string salt) := fun i => by rw [(hfb i).cell hlt, cell_of HA1]; rfl
    have d2 : ∀ i, (f i).cell? ⟨w.heap.size, 2, none⟩ = some (.int .i64 n) := fun i => by rw [(hfb i).cell hlt, cell_of HA1]; rfl
    have d3 : ∀ i, (f i).cell? ⟨w.heap.size, 3, none⟩ = some (.int .i64 bytes) := fun i => by rw [(hfb i).cell hlt, cell_of HA1]; rfl
    have d4 : ∀ i, (f i).cell? ⟨w.heap.size, 4, none⟩ = some (.int .i64 raw) := fun i => by rw [(hfb i).cell hlt, cell_of HA1]; rfl
    have d5 : ∀ i, (f i).cell? ⟨w.heap.size, 5, none⟩ = some (.string root) := fun i => by rw [(hfb i).cell hlt, cell_of HA1]; rfl
    have d6 : ∀ i, (f i).cell? ⟨w.heap.size, 6, none⟩ = some (.string tag) := fun i => by rw [(hfb i).cell hlt, cell_of HA1]; rfl
    have hfb' := Lib.hid hfb
    clear hfb HA1 hlt
    repeat (quiet_step (fail))
    quiet_step ((go_at_call 52; exact pure_of hfb'.out hback (HF.out _)))
    repeat (quiet_step (fail))
    quiet_step ((go_at_call 51; exact pure_of hfb'.out hback (HT.out _)))
    repeat (quiet_step (fail))
    refine wpQuiet_nil ?_
    intro i
    have HB := Lib.hid (HB1.out.trans ((hfb'.out i).mono hs1))
    generalize f i = w3 at *
    clear hfb' d0 d1 d2 d3 d4 d5 d6 hback
    go_wp2
    go_ret
    exact ⟨rfl, HB.out⟩
  · rw [if_neg hx] at hR
    have hq : (tg.toList == tag.toList) = false := by rw [text_beq]; exact decide_eq_false hx
    subst hR
    clear hx
    refine region_pure (by kernel_rfl) (by kernel_rfl) fun I ne f hfb hback => ?_
    have hlt := lt_of_heap HA1
    have d0 : ∀ i, (f i).cell? ⟨w.heap.size, 0, none⟩ = some (.int .i64 id) := fun i => by rw [(hfb i).cell hlt, cell_of HA1]; rfl
    have d1 : ∀ i, (f i).cell? ⟨w.heap.size, 1, none⟩ = some (.string salt) := fun i => by rw [(hfb i).cell hlt, cell_of HA1]; rfl
    have d2 : ∀ i, (f i).cell? ⟨w.heap.size, 2, none⟩ = some (.int .i64 n) := fun i => by rw [(hfb i).cell hlt, cell_of HA1]; rfl
    have d3 : ∀ i, (f i).cell? ⟨w.heap.size, 3, none⟩ = some (.int .i64 bytes) := fun i => by rw [(hfb i).cell hlt, cell_of HA1]; rfl
    have d4 : ∀ i, (f i).cell? ⟨w.heap.size, 4, none⟩ = some (.int .i64 raw) := fun i => by rw [(hfb i).cell hlt, cell_of HA1]; rfl
    have d5 : ∀ i, (f i).cell? ⟨w.heap.size, 5, none⟩ = some (.string root) := fun i => by rw [(hfb i).cell hlt, cell_of HA1]; rfl
    have d6 : ∀ i, (f i).cell? ⟨w.heap.size, 6, none⟩ = some (.string tag) := fun i => by rw [(hfb i).cell hlt, cell_of HA1]; rfl
    have hfb' := Lib.hid hfb
    clear hfb HA1 hlt
    repeat (quiet_step (fail))
    quiet_step ((go_at_call 52; exact pure_of hfb'.out hback (HF.out _)))
    repeat (quiet_step (fail))
    quiet_step ((go_at_call 51; exact pure_of hfb'.out hback (HT.out _)))
    repeat (quiet_step (fail))
    refine wpQuiet_nil ?_
    intro i
    have HB := Lib.hid (HB1.out.trans ((hfb'.out i).mono hs1))
    generalize f i = w3 at *
    clear hfb' d0 d1 d2 d3 d4 d5 d6 hback
    go_wp2
    go_ret
    exact ⟨rfl, HB.out⟩
end Go.Proofs.YtpmgackgcefalaaGreat
namespace Go.Proofs.YtpmgackgcefalaaGreat
open Go.RowKit
section
variable {P : Program}
end
end Go.Proofs.YtpmgackgcefalaaGreat
namespace Go.Proofs.YtpmgackgcefalaaGreat
open Go.RowKit
end Go.Proofs.YtpmgackgcefalaaGreat
namespace Go.Proofs.YtpmgackgcefalaaGreat
open Go.RowKit
end Go.Proofs.YtpmgackgcefalaaGreat
namespace Go.Proofs.YtpmgackgcefalaaGreat
open Go.RowKit Abs
end Go.Proofs.YtpmgackgcefalaaGreat
namespace Go.Proofs.YtpmgackgcefalaaGreat
open Go.RowKit Abs
theorem hastext_at (m : Mem) (v : Value) (ss : List ByteArray) (x : ByteArray) (h : Rd m 1 v ss.length (ss.map .string)) (hl : ss.length ≤ 140737488355327) :
    Abs.Spec Tryz.prog 20 [v, .string x] m fun u m' => u = .bool (hasText ss x) ∧ m' = m :=
  Spec.of_below rfl fun ι w us hy hr => by
    obtain ⟨a, b, rfl, ha, hb⟩ := vrels_two hy
    cases hb
    exact (contains_str a ss x w (h.strs hr ha) hl).mono fun e w' ⟨h1, h2⟩ => ⟨h1, by rw [h2]; exact Below.refl _ _⟩
theorem verify_at (m : Mem) (key : ByteArray) (h : Header) (hk : key.size ≤ 140737488355000) : Abs.Spec Tryz.prog 21 [.string key, h.val] m fun u m' => u = .int .i64 (h.verify key.data.toList) ∧ m' = m :=
  Abs.Spec.of_flat (by intro x hx; simp at hx; rcases hx with rfl | rfl <;> rfl) rfl fun w => verify_any key h w (by omega)
theorem rverify_at (m : Mem) (key : ByteArray) (h : Header) (hk : key.size ≤ 140737488355000) : Abs.Spec Tryz.prog 25 [.string key, h.val] m fun u m' => u = .int .i64 (h.verify key.data.toList) ∧ m' = m :=
  Abs.Spec.of_flat (by intro x hx; simp at hx; rcases hx with rfl | rfl <;> rfl) rfl fun w => rverify_any rtag_any key h w hk
theorem keys_at (m : Mem) (secret salt : ByteArray) (h1 : secret.size ≤ 140737488355000) (h2 : salt.size ≤ 140737488355000) : Abs.Spec Tryz.prog 22 [.string secret, .string salt] m fun u m' => u = keysV secret.data.toList salt.data.toList ∧ m' = m :=
  Abs.Spec.of_flat (by intro x hx; simp at hx; rcases hx with rfl | rfl <;> rfl) rfl fun w => keys_any secret salt w h1 h2
theorem rkeys_at (m : Mem) (secret salt : ByteArray) (h1 : secret.size ≤ 140737488355000) (h2 : salt.size ≤ 140737488355000) : Abs.Spec Tryz.prog 26 [.string secret, .string salt] m fun u m' => u = keysV secret.data.toList salt.data.toList ∧ m' = m :=
  Abs.Spec.of_flat (by intro x hx; simp at hx; rcases hx with rfl | rfl <;> rfl) rfl fun w => rkeys_any secret salt w h1 h2
theorem cvalid_at (m : Mem) (x : Int) (a b : ByteArray) (ha : a.size ≤ 140737488355200) (hb : b.size ≤ 140737488355200) : Abs.Spec Tryz.prog 23 [.int .i64 x, .string a, .string b] m fun u m' => u = .bool (clashB x a b) ∧ m' = m :=
  Abs.Spec.of_flat (by intro x hx; simp at hx; rcases hx with rfl | rfl | rfl <;> rfl) rfl fun w => cvalid_any x a b w ha hb
theorem rcvalid_at (m : Mem) (x : Int) (a b : ByteArray) (ha : a.size ≤ 140737488355200) (hb : b.size ≤ 140737488355200) : Abs.Spec Tryz.prog 24 [.int .i64 x, .string a, .string b] m fun u m' => u = .bool (clashB x a b) ∧ m' = m :=
  Abs.Spec.of_flat (by intro x hx; simp at hx; rcases hx with rfl | rfl | rfl <;> rfl) rfl fun w => rcvalid_any rsum_any x a b w ha hb
end Go.Proofs.YtpmgackgcefalaaGreat
namespace Go.Proofs.YtpmgackgcefalaaGreat.Abs
open Go Go.RowKit
section
variable {n n' : Nat → Prop} {ι κ : Nat → Loc} {σ : Nat → Option Nat}
end
end Go.Proofs.YtpmgackgcefalaaGreat.Abs
namespace Go.Proofs.YtpmgackgcefalaaGreat.Abs
open Go Go.RowKit
section
variable {P : Program} {n k : Nat} {f : AL} {m : Mem}
variable {Q : Exit → AL → Mem → Prop}
end
end Go.Proofs.YtpmgackgcefalaaGreat.Abs
namespace Go.Proofs.YtpmgackgcefalaaGreat.Abs
open Go Go.RowKit
end Go.Proofs.YtpmgackgcefalaaGreat.Abs
namespace Go.Proofs.YtpmgackgcefalaaGreat.Abs
open Go Go.RowKit
section
variable {P : Program} {n k₀ : Nat} {f f' : AL} {b : Mem} {l : List (Option (Option Blk))}
variable {Q : Exit → AL → Mem → Prop}
end
end Go.Proofs.YtpmgackgcefalaaGreat.Abs
namespace Go.Proofs.YtpmgackgcefalaaGreat.Abs
open Go Go.RowKit
section
variable {P : Program} {t : TypeId} {d : TypeDesc} {i : TypeInfo} {n : Nat}
end
theorem slice_gen {P : Program} {t e : TypeId} {i : TypeInfo} (hu : P.underlying t = some (.slice e)) (hi : P.info? e = some i) {n : Nat} (hs : i.size = n) {get : Nat → Option Blk} {b o len cap : Nat} {ro : Bool} {cs : List Value} (hb : get b = some (.cells ro n cs)) (l h : Int) (h1 : 0 ≤ l) (h2 : l ≤ h) (h3 : h ≤ cap) :
    gSlice P get t (.slice (some ⟨b, o, none⟩) len cap) (some (.int .i64 l)) (some (.int .i64 h)) = some (.slice (some ⟨b, o + l.toNat * n, none⟩) (h.toNat - l.toNat) (cap - l.toNat)) := by
  subst hs
  unfold gSlice aBound
  simp only [hu, hi, hb, if_pos (And.intro (Int.le_trans h1 h2) h3), if_pos (And.intro h1 h2), if_true]
theorem one_text {ι : Nat → Loc} {m : Mem} {w : World} (hr : Rel ι m w) {b o cap : Nat} {ro : Bool} {all : List Value} {s : ByteArray} {v : Value} (hg : m.get b = some (.cells ro 1 all)) (ho : all[o]? = some (.string s)) (hcap : cap ≤ maxLen) (hv : VRel m.Has ι (.slice (some ⟨b, o, none⟩) 1 cap) v) : SliceOf strS w v [s] := by
  obtain ⟨C, e, fz, g1, g2, g3, g4, g5, g6⟩ := hr.at' _ _ _ _ hg
  cases hv with
  | slice _ _ _ _ cap' hlt hl hcc =>
    refine ⟨_, cap', rfl, .inr ⟨(ι b).blk, (ι b).base + o, rfl, lt_of_heap g1, ?_, ?_, fun i x hx => ?_⟩⟩
    · simp only [List.length_cons, List.length_nil]; rcases hcc with hcc | hcc <;> omega
    · rcases hcc with hcc | hcc <;> omega
    · cases i with
      | succ i => simp at hx
      | zero =>
        simp at hx; subst hx
        refine ⟨[.string s], rfl, fun j c hj => ?_⟩
        cases j with
        | succ j => simp at hj
        | zero =>
          simp at hj; subst hj
          obtain ⟨_, v', h8, h9⟩ := g5 o _ ho
          cases h9
          rw [cell_of_block g1, ← h8]
          congr 1
end Go.Proofs.YtpmgackgcefalaaGreat.Abs
namespace Go.Proofs.YtpmgackgcefalaaGreat
open Go.RowKit Abs
end Go.Proofs.YtpmgackgcefalaaGreat
namespace Go.Proofs.YtpmgackgcefalaaGreat
open Go.RowKit Abs
noncomputable def validV (secret : ByteArray) (tagged : List Header) (inj : List ByteArray) (r : Int × ByteArray × ByteArray) : Bool :=
  if r.1 = 1 then (match offeredH r.2.1 with | some h => decide (r.2.2 = ⟨#[]⟩) && hasText inj r.2.1 && decide (h.verify (Sha.headKey secret.data.toList) = 0) && !hasHead tagged h | none => false)
  else if r.1 = 2 then clashB 32 r.2.1 r.2.2 else false
theorem fK2 (s t : List UInt8) : vField Tryz.prog 55 (some (keysV s t)) 2 = some (.string (str (Sha.headKey s))) := by kernel_rfl
theorem headKey_len (s : List UInt8) : (Sha.headKey s).length = 32 := by
  have h32 : ∀ k info : List UInt8, Sha.expand k info 32 = (Sha.tag k (info ++ [1])).take 32 := fun _ _ => rfl
  rw [Sha.headKey, h32, List.length_take, tag_len]
  decide
def zB2 := And.intro (And.intro (And.intro (And.intro (Tryz.underlying28) (And.intro Tryz.underlying23 Tryz.underlying22)) (And.intro (And.intro Tryz.underlying32 Tryz.underlying30) (And.intro Tryz.underlying36 Tryz.underlying27))) (And.intro (And.intro (Tryz.underlying4) (And.intro @inf_arch @arch_size)) (And.intro (And.intro @ldA @ldH) (And.intro @ldStr @ldSS)))) (And.intro (And.intro (And.intro (@ldHs) (And.intro @ldW @ldInt)) (And.intro (And.intro @stA @stH) (And.intro @stW @agg_cells))) (And.intro (And.intro (And.intro @Arch.arr @faT0) (And.intro @faT1 @faA0)) (And.intro (And.intro @faA1 @faW0) (And.intro @faW1 @faW2))))
set_option maxRecDepth 100000 in
set_option maxHeartbeats 2000000 in
theorem valid_spec (m : Mem) (secret : ByteArray) (TV : Array Value) (tagged : List Header) (inj : List ByteArray) (r : Int × ByteArray × ByteArray) (hT : TraceOk m TV tagged inj) (hs : secret.size ≤ 140737488355000) (ha : r.2.1.size ≤ 140737488355200) (hb : r.2.2.size ≤ 140737488355200) :
    Abs.Spec Tryz.prog 9 [.string secret, .agg TV, .agg (witC r)] m fun u M => u = .bool (validV secret tagged inj r) ∧ M = m := by
  obtain ⟨kd, a, b⟩ := r
  simp only at ha hb
  obtain ⟨a1, k1, a2, k2, a3, n3, k3, c1, c2, fl, hTV, htr⟩ := hT
  have hrp : reachBytes = 140737488351232 := rfl
  refine Abs.Spec.walkB Tryz.func9 (by rfl) _ Tryz.results9 _ Tryz.ntmps9 (by simp) m [] (ext_nil m).symm 0 rfl (.inl rfl) ?_
  intro hc hx
  have b1 : nBox Tryz.prog 27 (.agg TV) = some (.cells false (aStride Tryz.prog 27) TV.toList) := by rw [hTV]; rfl
  have b2 : nBox Tryz.prog 36 (.agg (witC (kd, a, b))) = some (.cells false (aStride Tryz.prog 36) [.int .i64 kd, .string a, .string b]) := by rfl
  have tc0 : TV.toList[0]? = some (.slice a1 tagged.length k1) := by rw [hTV]; rfl
  have tc1 : TV.toList[1]? = some (.slice a2 inj.length k2) := by rw [hTV]; rfl
  refine CW_seq (CW_region ?_)
  simp only [zZ, reduceIte, Nat.reduceLT, Int.reduceToNat, Int.reduceLE, Int.reduceEq, Int.reduceLT, Nat.reduceEqDiff, Nat.reduceAdd, zB2, b1, b2]
  generalize aStride Tryz.prog 27 = s1
  generalize aStride Tryz.prog 36 = s2
  refine CW_seq (CW_seq (CW_region ?_))
  simp only [zZ, reduceIte, Nat.reduceLT, Int.reduceToNat, Int.reduceLE, Int.reduceEq, Int.reduceLT, Nat.reduceEqDiff, Nat.reduceAdd, zB2]
  refine CW_block (CW_seq (CW_region ?_))
  simp only [zZ, reduceIte, Nat.reduceLT, Int.reduceToNat, Int.reduceLE, Int.reduceEq, Int.reduceLT, Nat.reduceEqDiff, Nat.reduceAdd, zB2]
  refine CW_cond (kd == 1) (by rfl) (fun hk => ?_) (fun hk => ?_)
  · have hk : kd = 1 := by simpa using hk
    refine CW_seq (CW_region ?_)
    simp only [zZ, reduceIte, Nat.reduceLT, Int.reduceToNat, Int.reduceLE, Int.reduceEq, Int.reduceLT, Nat.reduceEqDiff, Nat.reduceAdd, zB2]
    refine ⟨by kernel_rfl, _, offered_at _ a (by omega), ?_⟩
    rintro _ _ ⟨rfl, rfl⟩
    cases ho : offeredH a with
    | none =>
      have hput := fun (M : Mem) (b : Nat) => putIn_whole (n := 7) M b (s := aStride Tryz.prog 30) (vs := zeroH.toList) (cs := [.int .i64 0, .string ⟨#[]⟩, .int .i64 0, .int .i64 0, .int .i64 0, .string ⟨#[]⟩, .string ⟨#[]⟩]) rfl rfl rfl
      simp only [zZ, reduceIte, Nat.reduceLT, Int.reduceToNat, Int.reduceLE, Int.reduceEq, Int.reduceLT, Nat.reduceEqDiff, Nat.reduceAdd, zB2, optHead, alloc_head, hput]
      refine CW_seq (CW_draw hmix 25 (by kernel_rfl) (by kernel_rfl) ?_)
      simp only [zZ, reduceIte, Nat.reduceLT, Int.reduceToNat, Int.reduceLE, Int.reduceEq, Int.reduceLT, Nat.reduceEqDiff, Nat.reduceAdd, zB2]
      refine CW_ret ?_
      simp only [zZ, reduceIte, Nat.reduceLT, Int.reduceToNat, Int.reduceLE, Int.reduceEq, Int.reduceLT, Nat.reduceEqDiff, Nat.reduceAdd, zB2, bEnd, sAnswer, sAnswer.sRes]
      refine told_flat rfl ?_
      simp only [validV, hk, if_true, ho]
    | some h =>
      have hput := fun (M : Mem) (b : Nat) => putIn_whole (n := 7) M b (s := aStride Tryz.prog 30) (vs := h.val.cells.toList) (cs := [.int .i64 0, .string ⟨#[]⟩, .int .i64 0, .int .i64 0, .int .i64 0, .string ⟨#[]⟩, .string ⟨#[]⟩]) rfl rfl rfl
      have w7 : ∀ s, rowIn 7 0 (some (.cells false s h.val.cells.toList)) = some h.val := fun s => rowIn_whole rfl
      simp only [zZ, reduceIte, Nat.reduceLT, Int.reduceToNat, Int.reduceLE, Int.reduceEq, Int.reduceLT, Nat.reduceEqDiff, Nat.reduceAdd, zB2, optHead, alloc_head, hput]
      refine CW_seq (CW_draw hmix 25 (by kernel_rfl) (by kernel_rfl) ?_)
      have hR : validV secret tagged inj (kd, a, b) = (decide (b = ⟨#[]⟩) && hasText inj a && decide (h.verify (Sha.headKey secret.data.toList) = 0) && !hasHead tagged h) := by simp only [validV, hk, if_true, ho]
      rw [hR]
      cases hq1 : beqB b ⟨#[]⟩ with
      | false =>
        rw [beqB_dec] at hq1
        simp only [zZ, reduceIte, Nat.reduceLT, Int.reduceToNat, Int.reduceLE, Int.reduceEq, Int.reduceLT, Nat.reduceEqDiff, Nat.reduceAdd, zB2, beqB_dec, hq1]
        refine CW_ret ?_
        simp only [zZ, reduceIte, Nat.reduceLT, Int.reduceToNat, Int.reduceLE, Int.reduceEq, Int.reduceLT, Nat.reduceEqDiff, Nat.reduceAdd, zB2, bEnd, sAnswer, sAnswer.sRes]
        exact told_flat rfl (by rw [hq1]; rfl)
      | true =>
        rw [beqB_dec] at hq1
        simp only [zZ, reduceIte, Nat.reduceLT, Int.reduceToNat, Int.reduceLE, Int.reduceEq, Int.reduceLT, Nat.reduceEqDiff, Nat.reduceAdd, zB2, beqB_dec, hq1, tc1]
        have htr1 := htr.injr.grow (Grows.ext m [some (some (.cells false s1 TV.toList)), some (some (.cells false s2 [.int .i64 kd, .string a, .string b])), some (some (.cells false (aStride Tryz.prog 30) h.val.cells.toList))])
        have htr2 := htr.tag.grow (Grows.ext m [some (some (.cells false s1 TV.toList)), some (some (.cells false s2 [.int .i64 kd, .string a, .string b])), some (some (.cells false (aStride Tryz.prog 30) h.val.cells.toList))])
        have hil := htr.il
        have htl := htr.tl
        refine ⟨by kernel_rfl, _, hastext_at _ _ inj a htr1 (by omega), ?_⟩
        simp only [hq1, Bool.true_and]
        cases hq2 : hasText inj a with
        | false =>
          simp only [zZ, reduceIte, Nat.reduceLT, Int.reduceToNat, Int.reduceLE, Int.reduceEq, Int.reduceLT, Nat.reduceEqDiff, Nat.reduceAdd, zB2]
          refine CW_ret ?_
          simp only [zZ, reduceIte, Nat.reduceLT, Int.reduceToNat, Int.reduceLE, Int.reduceEq, Int.reduceLT, Nat.reduceEqDiff, Nat.reduceAdd, zB2, bEnd, sAnswer, sAnswer.sRes]
          exact told_flat rfl (by simp)
        | true =>
          simp only [zZ, reduceIte, Nat.reduceLT, Int.reduceToNat, Int.reduceLE, Int.reduceEq, Int.reduceLT, Nat.reduceEqDiff, Nat.reduceAdd, zB2]
          refine ⟨by kernel_rfl, _, keys_at _ secret ⟨#[]⟩ hs (by decide), ?_⟩
          simp only [zZ, reduceIte, Nat.reduceLT, Int.reduceToNat, Int.reduceLE, Int.reduceEq, Int.reduceLT, Nat.reduceEqDiff, Nat.reduceAdd, zB2, fK2, w7]
          refine ⟨by kernel_rfl, _, verify_at _ (str (Sha.headKey secret.data.toList)) h (by rw [str_size, headKey_len]; decide), ?_⟩
          rw [str_list]
          have zV := fun (x : Int) => aBin_ii Tryz.prog .eql 52 true .i64 .i64 x 0
          simp only [hq2, Bool.true_and]
          cases hq3 : decide (h.verify (Sha.headKey secret.data.toList) = 0) with
          | false =>
            have e3 : (h.verify (Sha.headKey secret.data.toList) == 0) = false := by rw [← hq3, Bool.eq_iff_iff]; simp
            simp only [zZ, reduceIte, Nat.reduceLT, Int.reduceToNat, Int.reduceLE, Int.reduceEq, Int.reduceLT, Nat.reduceEqDiff, Nat.reduceAdd, zB2, e3]
            refine CW_ret ?_
            simp only [zZ, reduceIte, Nat.reduceLT, Int.reduceToNat, Int.reduceLE, Int.reduceEq, Int.reduceLT, Nat.reduceEqDiff, Nat.reduceAdd, zB2, bEnd, sAnswer, sAnswer.sRes]
            exact told_flat rfl (by simp)
          | true =>
            have e3 : (h.verify (Sha.headKey secret.data.toList) == 0) = true := by rw [← hq3, Bool.eq_iff_iff]; simp
            simp only [zZ, reduceIte, Nat.reduceLT, Int.reduceToNat, Int.reduceLE, Int.reduceEq, Int.reduceLT, Nat.reduceEqDiff, Nat.reduceAdd, zB2, e3, tc0, w7]
            refine ⟨by kernel_rfl, _, hashead_at _ _ tagged h htr2 htr.wf (by omega), ?_⟩
            rintro _ _ ⟨rfl, rfl⟩
            simp only [zZ, reduceIte, Nat.reduceLT, Int.reduceToNat, Int.reduceLE, Int.reduceEq, Int.reduceLT, Nat.reduceEqDiff, Nat.reduceAdd, zB2]
            refine CW_ret ?_
            simp only [zZ, reduceIte, Nat.reduceLT, Int.reduceToNat, Int.reduceLE, Int.reduceEq, Int.reduceLT, Nat.reduceEqDiff, Nat.reduceAdd, zB2, bEnd, sAnswer, sAnswer.sRes]
            exact told_flat rfl (by rw [hq1]; simp)
  · refine CW_seq (CW_region ?_)
    simp only [zZ, reduceIte, Nat.reduceLT, Int.reduceToNat, Int.reduceLE, Int.reduceEq, Int.reduceLT, Nat.reduceEqDiff, Nat.reduceAdd, zB2]
    refine CW_cond (kd == 2) (by rfl) (fun hk2 => ?_) (fun hk2 => CW_skip ?_)
    · refine CW_seq (CW_region ?_)
      simp only [zZ, reduceIte, Nat.reduceLT, Int.reduceToNat, Int.reduceLE, Int.reduceEq, Int.reduceLT, Nat.reduceEqDiff, Nat.reduceAdd, zB2]
      refine ⟨by kernel_rfl, _, cvalid_at _ 32 a b ha hb, ?_⟩
      rintro _ _ ⟨rfl, rfl⟩
      simp only [zZ, reduceIte, Nat.reduceLT, Int.reduceToNat, Int.reduceLE, Int.reduceEq, Int.reduceLT, Nat.reduceEqDiff, Nat.reduceAdd, zB2]
      refine CW_ret ?_
      simp only [zZ, reduceIte, Nat.reduceLT, Int.reduceToNat, Int.reduceLE, Int.reduceEq, Int.reduceLT, Nat.reduceEqDiff, Nat.reduceAdd, zB2, bEnd, sAnswer, sAnswer.sRes]
      refine told_flat rfl ?_
      simp only [validV]
      rw [if_neg (by simpa using hk), if_pos (by simpa using hk2)]
    · simp only [zZ, reduceIte, Nat.reduceLT, Int.reduceToNat, Int.reduceLE, Int.reduceEq, Int.reduceLT, Nat.reduceEqDiff, Nat.reduceAdd, zB2]
      refine CW_seq (CW_region ?_)
      simp only [zZ, reduceIte, Nat.reduceLT, Int.reduceToNat, Int.reduceLE, Int.reduceEq, Int.reduceLT, Nat.reduceEqDiff, Nat.reduceAdd, zB2]
      refine CW_ret ?_
      simp only [zZ, reduceIte, Nat.reduceLT, Int.reduceToNat, Int.reduceLE, Int.reduceEq, Int.reduceLT, Nat.reduceEqDiff, Nat.reduceAdd, zB2, bEnd, sAnswer, sAnswer.sRes]
      refine told_flat rfl ?_
      simp only [validV]
      rw [if_neg (by simpa using hk), if_neg (by simpa using hk2)]
end Go.Proofs.YtpmgackgcefalaaGreat
