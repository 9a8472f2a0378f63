/-
  The walks of the document's answer for layer 18: a header's bytes.
-/
import Derived.Test.YtkifimkcmfglmaaGreatDoorArcb04
set_option linter.all false
namespace Go.Proofs.YtkifimkcmfglmaaGreatDoor
open Go.RowKit
theorem rfixed_i (n k : Int) (h0 : 0 ≤ n) (hn : n < 4611686018427387904) (hk1 : 0 ≤ k) (hk : k ≤ 8) (w : World) :
    Calls Tryz.prog 63 #[.int .i64 n, .int .i64 k] w fun e w' => e = .returned (.string (str (Sha.fixed n k.toNat))) ∧ Below w.heap.size w w' := by
  obtain ⟨k, rfl⟩ := Int.eq_ofNat_of_zero_le hk1
  obtain ⟨n, rfl⟩ := Int.eq_ofNat_of_zero_le h0
  rw [Int.toNat_natCast]
  exact rfixed_any n k (by omega) (by omega) w
set_option maxRecDepth 100000 in
set_option maxHeartbeats 1000000 in
theorem rfields_any (h : Header) (hok : h.okP) (hs : h.salt.size ≤ 140737488355327) (hr : h.root.size ≤ 140737488355327) (w : World) :
    Calls Tryz.prog 38 #[h.val] w fun e w' => e = .returned (.string h.fields) ∧ Below w.heap.size w w' := by
  obtain ⟨id, salt, n, bytes, raw, root, tag⟩ := h
  simp only [Header.val, Header.fields, Header.okP] at *
  have k1 : 0 ≤ id ∧ id < 4611686018427387904 := by omega
  have k2 : 0 ≤ n ∧ n < 4611686018427387904 := by omega
  have k3 : 0 ≤ bytes ∧ bytes < 4611686018427387904 := by omega
  have k4 : 0 ≤ raw ∧ raw < 4611686018427387904 := by omega
  clear hok
  go_enter Tryz.func38, Tryz.ntmps38
  go_wp2_with fail
  refine region_pure (by kernel_rfl) (by kernel_rfl) fun I ne f hfb hback => ?_
  have hA := heap_alloc_new w (.cells #[.int .i64 id, .string salt, .int .i64 n, .int .i64 bytes, .int .i64 raw, .string root, .string tag] 23 (0, 0))
  have d0 : ∀ i, (f i).cell? ⟨w.heap.size, 0, none⟩ = some (.int .i64 id) := fun i => by rw [(hfb i).cell (by simp), cell_of hA]; rfl
  have d1 : ∀ i, (f i).cell? ⟨w.heap.size, 1, none⟩ = some (.string salt) := fun i => by rw [(hfb i).cell (by simp), cell_of hA]; rfl
  have d2 : ∀ i, (f i).cell? ⟨w.heap.size, 2, none⟩ = some (.int .i64 n) := fun i => by rw [(hfb i).cell (by simp), cell_of hA]; rfl
  have d3 : ∀ i, (f i).cell? ⟨w.heap.size, 3, none⟩ = some (.int .i64 bytes) := fun i => by rw [(hfb i).cell (by simp), cell_of hA]; rfl
  have d4 : ∀ i, (f i).cell? ⟨w.heap.size, 4, none⟩ = some (.int .i64 raw) := fun i => by rw [(hfb i).cell (by simp), cell_of hA]; rfl
  have d5 : ∀ i, (f i).cell? ⟨w.heap.size, 5, none⟩ = some (.string root) := fun i => by rw [(hfb i).cell (by simp), cell_of hA]; rfl
  have q1 : (str (Sha.fixed id 4)).size = 4 := by rw [str_size, Sha.fixed_length]
  have q2 : (str (Sha.fixed n 2)).size = 2 := by rw [str_size, Sha.fixed_length]
  have q3 : (str (Sha.fixed bytes 4)).size = 4 := by rw [str_size, Sha.fixed_length]
  have q4 : (str (Sha.fixed raw 4)).size = 4 := by rw [str_size, Sha.fixed_length]
  have q0 : (ByteArray.mk #[83, 76, 71, 49]).size = 4 := rfl
  have p1 : ¬ (9223372036854775807 < 8 + salt.size) := by omega
  have p2 : ¬ (9223372036854775807 < 8 + salt.size + 2) := by omega
  have p3 : ¬ (9223372036854775807 < 8 + salt.size + 2 + 4) := by omega
  have p4 : ¬ (9223372036854775807 < 8 + salt.size + 2 + 4 + 4) := by omega
  have p5 : ¬ (9223372036854775807 < 8 + salt.size + 2 + 4 + 4 + root.size) := by omega
  have hfb' := Lib.hid hfb
  clear hfb hA
  repeat (quiet_step ((go_at_call 63; exact pure_of hfb'.out hback (rfixed_i _ _ (by omega) (by omega) (by decide) (by decide) _))))
  refine wpQuiet_nil ?_
  intro i
  have hbi := hfb'.out i
  generalize f i = w3 at *
  have HB := Lib.hid (((Below.refl w.heap.size w).alloc (Nat.le_refl _) _).trans (hbi.mono (by simp)))
  clear hfb' d0 d1 d2 d3 d4 d5 hback hbi
  go_wp2
  go_ret
  exact ⟨rfl, HB.out⟩
end Go.Proofs.YtkifimkcmfglmaaGreatDoor
