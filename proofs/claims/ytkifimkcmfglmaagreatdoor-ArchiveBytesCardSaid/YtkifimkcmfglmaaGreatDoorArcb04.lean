/-
  The walks of the document's answer for layer 18: whether a header may be, its bytes.
-/
import Derived.Test.YtkifimkcmfglmaaGreatDoorArcb03
set_option linter.all false
namespace Go.Proofs.YtkifimkcmfglmaaGreatDoor
open Go.RowKit
def Header.okP (h : Header) : Prop := 1 ≤ h.id ∧ h.id ≤ 4294967295 ∧ h.salt.size = 16 ∧ h.root.size = 32 ∧ h.tag.size = 32 ∧ 1 ≤ h.bytes ∧ h.bytes ≤ 49152 ∧ h.n = (h.bytes + 191) / 192 ∧ 1 ≤ h.raw ∧ h.raw ≤ 134217728
theorem Header.check_zero (h : Header) : h.check = 0 ↔ h.okP := by
  unfold Header.check Header.okP
  constructor
  · intro hc
    repeat (split at hc; · exact absurd hc (by decide))
    refine ⟨by omega, by omega, by omega, by omega, by omega, by omega, by omega, by omega, by omega, by omega⟩
  · rintro ⟨h1, h2, h3, h4, h5, h6, h7, h8, h9, h10⟩
    rw [if_neg (by omega), if_neg (by omega), if_neg (by simp [h3]), if_neg (by simp [h4]), if_neg (by simp [h5]), if_neg (by omega), if_neg (by omega), if_neg (by simp [h8]), if_neg (by omega), if_neg (by omega)]
def Header.may (h : Header) : Bool := decide (h.check = 0)
set_option maxRecDepth 100000 in
set_option maxHeartbeats 2000000 in
theorem may_any (h : Header) (w : World) :
    Calls Tryz.prog 37 #[h.val] w fun e w' => e = .returned (.bool h.may) ∧ Below w.heap.size w w' := by
  have hiff := h.check_zero
  obtain ⟨r, hr⟩ : ∃ r, r = h.may := ⟨_, rfl⟩
  rw [← hr]
  have hf : ¬ h.okP → r = false := fun x => by rw [hr]; exact decide_eq_false (fun y => x (hiff.1 y))
  have ht : h.okP → r = true := fun x => by rw [hr]; exact decide_eq_true (hiff.2 x)
  clear hr hiff
  obtain ⟨id, salt, n, bytes, raw, root, tag⟩ := h
  simp only [Header.val, Header.okP] at *
  have HB := Lib.hid (fun o : Obj => (Below.refl w.heap.size w).alloc (Nat.le_refl _) o)
  have HF := Lib.hid hf
  have HT := Lib.hid ht
  clear hf ht
  go_enter Tryz.func37, Tryz.ntmps37
  by_cases c1 : id < 1
  · have e := HF.out (by omega); subst e; clear HF HT; go_wp2; go_ret; exact ⟨rfl, HB.out _⟩
  by_cases c2 : 4294967295 < id
  · have e := HF.out (by omega); subst e; clear HF HT; go_wp2; go_ret; exact ⟨rfl, HB.out _⟩
  by_cases c3 : (salt.size : Int) = 16
  case neg =>
    have e := HF.out (by omega); subst e; clear HF HT
    have b3 : ((salt.size : Int) == 16) = false := by simp [c3]
    go_wp2; go_ret; exact ⟨rfl, HB.out _⟩
  by_cases c4 : (root.size : Int) = 32
  case neg =>
    have e := HF.out (by omega); subst e; clear HF HT
    have b3 : ((root.size : Int) == 32) = false := by simp [c4]
    go_wp2; go_ret; exact ⟨rfl, HB.out _⟩
  by_cases c5 : (tag.size : Int) = 32
  case neg =>
    have e := HF.out (by omega); subst e; clear HF HT
    have b3 : ((tag.size : Int) == 32) = false := by simp [c5]
    go_wp2; go_ret; exact ⟨rfl, HB.out _⟩
  by_cases c6 : bytes < 1
  · have e := HF.out (by omega); subst e; clear HF HT; go_wp2; go_ret; exact ⟨rfl, HB.out _⟩
  by_cases c7 : 49152 < bytes
  · have e := HF.out (by omega); subst e; clear HF HT; go_wp2; go_ret; exact ⟨rfl, HB.out _⟩
  by_cases c9 : raw < 1
  · have e := HF.out (by omega); subst e; clear HF HT; go_wp2; go_ret; exact ⟨rfl, HB.out _⟩
  by_cases c10 : 134217728 < raw
  · have e := HF.out (by omega); subst e; clear HF HT; go_wp2; go_ret; exact ⟨rfl, HB.out _⟩
  have e8 : bytes.tdiv 192 = bytes / 192 := Int.tdiv_eq_ediv_of_nonneg (by omega)
  have e9 : bytes.tmod 192 = bytes % 192 := Int.tmod_eq_emod_of_nonneg (by omega)
  by_cases cm : 0 < bytes % 192
  · by_cases cn : n = bytes / 192 + 1
    · have e := HT.out (by omega); subst e; clear HF HT
      go_wp2; go_ret; exact ⟨rfl, HB.out _⟩
    · have e := HF.out (by omega); subst e; clear HF HT
      have b3 : (n == bytes / 192 + 1) = false := by simp [cn]
      go_wp2; go_ret; exact ⟨rfl, HB.out _⟩
  · by_cases cn : n = bytes / 192
    · have e := HT.out (by omega); subst e; clear HF HT
      go_wp2; go_ret; exact ⟨rfl, HB.out _⟩
    · have e := HF.out (by omega); subst e; clear HF HT
      have b3 : (n == bytes / 192) = false := by simp [cn]
      go_wp2; go_ret; exact ⟨rfl, HB.out _⟩
end Go.Proofs.YtkifimkcmfglmaaGreatDoor
