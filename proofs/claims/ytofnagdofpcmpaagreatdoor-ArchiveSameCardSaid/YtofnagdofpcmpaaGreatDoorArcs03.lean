/-
  The walks of enc: numbers of so many bytes.
  The walks of kdf.
  The walks of kdf: the keys of an archive.
  The walks of merkle: widths, sums, cuts.
  The walks of merkle: how many leaves stand on the left.
  The program's types in memory.
  The walks of header: its fields, its check.
  The walks of the searches in lists of texts, and of headers.
  The walks of the searches in lists of headers.
  The walks of the searches for a header, and of the tests whether two archives are the same.
-/
import Derived.Test.YtofnagdofpcmpaaGreatDoorArcs02
import Derived.Test.YtofnagdofpcmpaaGreatDoorArcs01
import Derived.Deep.CutRange
import Derived.DeepKeys
set_option linter.all false
namespace Go.Proofs.YtofnagdofpcmpaaGreatDoor
open Go.RowKit
theorem fixed_cons (n : Int) : ∀ k, Sha.fixed n (k + 1) = UInt8.ofNat (n / 256 ^ k % 256).toNat :: Sha.fixed n k := by
  intro k
  induction k generalizing n with
  | zero => simp [Sha.fixed]
  | succ k ih =>
    rw [Sha.fixed, ih (n / 256), Sha.fixed]
    rw [Int.ediv_ediv_of_nonneg (by decide), ← Int.pow_succ', List.cons_append]
theorem fixed_drop (n : Int) (k : Nat) : ∀ j, (Sha.fixed n (k + j)).drop j = Sha.fixed n k
  | 0 => rfl
  | j + 1 => by rw [← Nat.add_assoc, fixed_cons, List.drop_succ_cons]; exact fixed_drop n k j
theorem fixed_byte (n : Int) (k : Nat) : byteV (UInt8.ofNat (n / 256 ^ k % 256).toNat) = .int .u8 (n / 256 ^ k % 256) := by
  unfold byteV
  congr 1
  rw [UInt8.toNat_ofNat']
  have : 0 ≤ n / 256 ^ k % 256 := Int.emod_nonneg _ (by decide)
  have : n / 256 ^ k % 256 < 256 := Int.emod_lt_of_pos _ (by decide)
  omega
theorem fixed_step (n : Int) (t : Nat) (ht : t < 8) :
    (List.replicate (8 - t) (Value.int .u8 0) ++ bytesV (Sha.fixed n t)).toArray.setIfInBounds (7 - t) (.int .u8 (n / 2 ^ (8 * t) % 256)) = (List.replicate (8 - (t + 1)) (Value.int .u8 0) ++ bytesV (Sha.fixed n (t + 1))).toArray := by
  have e1 : n / 2 ^ (8 * t) % 256 = n / 256 ^ t % 256 := by rw [Int.pow_mul]; rfl
  have e2 : bytesV (Sha.fixed n (t + 1)) = Value.int .u8 (n / 256 ^ t % 256) :: bytesV (Sha.fixed n t) := by
    rw [fixed_cons, ← fixed_byte]; rfl
  rw [e1, e2]
  apply Array.ext'
  rw [Array.toList_setIfInBounds]
  show List.set (List.replicate (8 - t) (Value.int .u8 0) ++ bytesV (Sha.fixed n t)) (7 - t) _ = _
  rw [show 8 - t = (8 - (t + 1)) + 1 by omega, List.replicate_succ', show 7 - t = 8 - (t + 1) by omega, List.append_assoc]
  rw [List.set_append_right _ _ (by simp)]
  simp
set_option maxRecDepth 100000 in
theorem slice8 (g k : Nat) (hk1 : 1 ≤ k) (hk : k ≤ 8) (w : World) :
    (Instr.sliceAt 210 (.pointer (some ⟨g, 0, none⟩)) (some (.int .i64 (8 - (k : Int)))) none none).run Tryz.prog w = .ok (.slice (some ⟨g, 8 - k, none⟩) k k) w := by
  have hl : Tryz.prog.arrayLen 210 = 8 := by kernel_rfl
  have he : Tryz.prog.elem 210 = 5 := by kernel_rfl
  have hs : (sizeOf 5).run Tryz.prog w = .ok 1 w := by
    obtain ⟨i0, hi, _, hz1, _⟩ := info_parts info_byte
    simp [sizeOf, typeInfo, hi, hz1]
  rw [run_sliceAt_array_l w _ _ (by rw [hl, he]; exact Tryz.underlying210) _ _ (by omega) (by rw [hl]; omega), he, hs, hl]
  have e : (8 - (k : Int)).toNat = 8 - k := by omega
  simp only [Result.andThen_ok, slicedAt, e]
  rw [if_neg (by omega), show 8 - (8 - k) = k by omega]
  congr 2
  simp only [Addr.add]
  split
  · rename_i h
    have : 8 - k = 0 := by omega
    simp [this]
  · simp
set_option maxRecDepth 100000 in
set_option maxHeartbeats 1000000 in
theorem fixed_any (n : Int) (k : Nat) (hk1 : 1 ≤ k) (hk : k ≤ 8) (w : World) :
    Calls Tryz.prog 122 #[.int .i64 n, .int .i64 k] w fun e w' => e = .returned (.string (str (Sha.fixed n k))) ∧ Below w.heap.size w w' := by
  go_enter Tryz.func122, Tryz.ntmps122
  go_wp2_with fail
  go_loopw [7] (fun i wr => ∃ t : Nat, t ≤ 8 ∧ i = .int .i64 t ∧ Below w.heap.size w wr ∧ wr.heap[w.heap.size]? = some (.cells (List.replicate (8 - t) (Value.int .u8 0) ++ bytesV (Sha.fixed n t)).toArray 210 (0, 0))) (fun i _ => 8 - (intOf i).toNat)
  case atStart => exact ⟨0, by omega, rfl, (Below.refl _ _).alloc (Nat.le_refl _) _, heap_alloc_new _ _⟩
  case round =>
    obtain ⟨t, ht, rfl, hb, hg⟩ := hrel
    have HB := Lib.hid hb
    have HG := Lib.hid hg
    by_cases hlt : t < 8
    · have c := cell_of hg (7 - t)
      have z := frozen_of hg (7 - t)
      have e0 : (List.replicate (8 - t) (Value.int .u8 0) ++ bytesV (Sha.fixed n t)).toArray[7 - t]? = some (.int .u8 0) := by
        rw [List.getElem?_toArray, List.getElem?_append_left (by simp; omega), List.getElem?_replicate, if_pos (by omega)]
      rw [e0] at c
      obtain ⟨x7, y7, z7⟩ := idx (7 - (t : Int)) (7 - t) (by omega) (by omega)
      clear hb hg e0
      have l1 : 7 - (t : Int) < 8 := by omega
      have l2 : (t : Int) ≤ 7 := by omega
      go_wp2
      go_roundw
      case rel => exact ⟨t + 1, by omega, by go_num, HB.out.setCell (Nat.le_refl _) _, by rw [heap_setCell HG.out, fixed_step n t hlt]⟩
      case measure => simp [intOf]; omega
    · have et : t = 8 := by omega
      rw [et, Nat.sub_self, List.replicate_zero, List.nil_append] at hg
      have hcv := run_convert_bytes_back (P := Tryz.prog) wr 41 9 5 ⟨w.heap.size, 8 - k, none⟩ k (Sha.fixed n k) Tryz.underlying41 Tryz.underlying5 Tryz.underlying9 (fun j hj => by
        rw [Sha.fixed_length] at hj
        have e8 : (⟨w.heap.size, 8 - k, none⟩ : Addr).add j = ⟨w.heap.size, 8 - k + j, none⟩ := by cases j <;> simp [Addr.add]
        have e9 := fixed_drop n k (8 - k)
        rw [show k + (8 - k) = 8 by omega] at e9
        rw [e8, cell_of hg, List.getElem?_toArray]
        have e10 : (bytesV (Sha.fixed n 8))[8 - k + j]? = (bytesV (Sha.fixed n k))[j]? := by
          rw [← e9]; simp [bytesV]
        rw [e10]
        simp [bytesV, byteV, Sha.fixed_length, hj])
      rw [Sha.fixed_length] at hcv
      have k0 : (0 : Int) ≤ k := by omega
      have k8 : (k : Int) ≤ 8 := by omega
      have k1 : (1 : Int) ≤ k := by omega
      obtain ⟨xk, yk, zk⟩ := idx (8 - (k : Int)) (8 - k) (by omega) (by omega)
      have k2 : 8 - (k : Int) ≤ 8 := by omega
      have k3 : ¬ (8 : Nat) = 8 - k := by omega
      have k4 : 8 - (8 - k) = k := by omega
      have hsl := slice8 w.heap.size k hk1 hk wr
      clear hg et hb
      go_wp2
      go_ret
      exact ⟨rfl, HB.out⟩
theorem fixed_i (n k : Int) (hk1 : 1 ≤ k) (hk : k ≤ 8) (w : World) :
    Calls Tryz.prog 122 #[.int .i64 n, .int .i64 k] w fun e w' => e = .returned (.string (str (Sha.fixed n k.toNat))) ∧ Below w.heap.size w w' := by
  obtain ⟨k, rfl⟩ := Int.eq_ofNat_of_zero_le (show (0 : Int) ≤ k by omega)
  rw [Int.toNat_natCast]
  exact fixed_any n k (by omega) (by omega) w
end Go.Proofs.YtofnagdofpcmpaaGreatDoor
namespace Go.Proofs.YtofnagdofpcmpaaGreatDoor
open Go.RowKit
set_option maxHeartbeats 400000 in
theorem extract_any (salt secret : ByteArray) (w : World) (h1 : salt.size ≤ 140737488355000) (h2 : secret.size ≤ 140737488355000) :
    Calls Tryz.prog 75 #[.string salt, .string secret] w fun e w' => e = .returned (.string (str (Sha.tag salt.data.toList secret.data.toList))) ∧ Below w.heap.size w w' := by
  have hj : joined [secret] = secret.data.toList := by simp [joined]
  have hl : secret.data.toList.length = secret.size := by rw [Array.length_toList]; rfl
  have HJ := Lib.hid hj
  have HL := Lib.hid hl
  clear hj hl
  go_enter Tryz.func75, Tryz.ntmps75
  go_wp2_with fail
  refine (tag_any salt (.slice (some ⟨w.heap.size, 0, none⟩) 1 1) [secret] _ (SliceOf.litS _ _ rfl _ 9 1 rfl (by decide) _ rfl) (by omega) (by simp [maxLen]) (by rw [HJ.out, HL.out]; exact h2)).mono ?_
  rintro e w1 ⟨rfl, hb⟩
  rw [HJ.out]
  go_wp2_with fail
  go_ret
  exact ⟨rfl, ((Below.refl w.heap.size w).alloc (Nat.le_refl _) _).trans (hb.mono (by simp))⟩
theorem fixed_one (j : Nat) (hj : j < 255) : Sha.fixed ((j : Int) + 1) (1 : Int).toNat = [UInt8.ofNat (j + 1)] := by
  show Sha.fixed ((j : Int) + 1) 1 = _
  simp only [Sha.fixed, List.nil_append]
  have : (((j : Int) + 1) % 256).toNat = j + 1 := by omega
  rw [this]
set_option maxRecDepth 100000 in
set_option maxHeartbeats 1000000 in
theorem expand_any (key info : ByteArray) (n : Nat) (hn1 : 1 ≤ n) (hn : n ≤ 8160) (w : World) (hk : key.size ≤ 140737488355000) (hi : info.size ≤ 1000000) :
    Calls Tryz.prog 119 #[.string key, .string info, .int .i64 n] w fun e w' => e = .returned (.tuple #[.string (str (Sha.expand key.data.toList info.data.toList n)), .int .i64 0]) ∧ Below w.heap.size w w' := by
  obtain ⟨i0, hi0, hz0, hz1, hz2⟩ := info_parts info_byte
  have n1 : (1 : Int) ≤ n := by omega
  have n2 : (n : Int) ≤ 8160 := by omega
  have hil : info.data.toList.length = info.size := by rw [Array.length_toList]; rfl
  have HIL := Lib.hid hil
  clear hil
  go_enter Tryz.func119, Tryz.ntmps119
  go_wp2_with fail
  go_loopg [8, 9, 10] 256 (fun k v t i wr => ∃ j : Nat, j + k = 256 ∧ 32 * j ≤ n + 31 ∧ i = .int .i64 ((j : Int) + 1) ∧ t = .string (str (Sha.parts key.data.toList info.data.toList j).1) ∧ Below w.heap.size w wr ∧
    wr.ownsRow w.heap.size 5 1 v (32 * j) (bytesV (Sha.parts key.data.toList info.data.toList j).2))
  case atStart => exact ⟨0, by omega, by omega, rfl, rfl, Below.refl _ _, World.ownsRow_nil _ _ _ _⟩
  case round =>
    obtain ⟨j, hjk, hjn, rfl, rfl, hb, hown⟩ := hrel
    have HO := Lib.hid hown
    have HB := Lib.hid hb
    have hsz := hb.size
    obtain ⟨av, capv, hv, hel⟩ := elems_of_owned byteV hown
    rw [Sha.parts_length] at hv
    subst hv
    have hcap : 32 * j ≤ capv := by
      rcases hel with ⟨h0, _⟩ | ⟨_, _, _, _, hlc, _⟩
      · have := congrArg List.length h0; rw [Sha.parts_length] at this; simp at this; omega
      · rw [Sha.parts_length] at hlc; exact hlc
    have HEL : Hid (ElemsAt bytesS wr av capv (Sha.parts key.data.toList info.data.toList j).2) := hel
    have HPL := Lib.hid (Sha.parts_length key.data.toList info.data.toList j)
    clear hown hb hel
    by_cases hlt : 32 * j < n
    · have hlt' : (32 * (j : Int)) < n := by omega
      obtain ⟨bt, hbt⟩ : ∃ bt, bt = UInt8.ofNat (j + 1) := ⟨_, rfl⟩
      have HBT := Lib.hid hbt
      have hst : Hid (Sha.parts key.data.toList info.data.toList (j + 1) = (Sha.tag key.data.toList ((Sha.parts key.data.toList info.data.toList j).1 ++ (info.data.toList ++ [bt])), (Sha.parts key.data.toList info.data.toList j).2 ++ Sha.tag key.data.toList ((Sha.parts key.data.toList info.data.toList j).1 ++ (info.data.toList ++ [bt])))) := by rw [hbt]; rfl
      have ht1 : (Sha.parts key.data.toList info.data.toList j).1.length ≤ 32 := by
        cases j with
        | zero => simp [Sha.parts]
        | succ j => simp [Sha.parts, Sha.tag_length]
      have HT1 := Lib.hid ht1
      clear ht1 hbt
      go_wp2_with fail
      refine (fixed_i _ _ (by decide) (by decide) _).mono ?_
      rintro e w1 ⟨rfl, hb1⟩
      rw [fixed_one j (by omega), ← HBT.out]
      have HO1 := Lib.hid (ownsRow_below HO.out hb1)
      have HB1 := Lib.hid (HB.out.trans (hb1.mono hsz))
      have hsz1 := HB1.out.size
      clear hb1 HO HB
      have hj : joined [str (Sha.parts key.data.toList info.data.toList j).1, info, str [bt]] = (Sha.parts key.data.toList info.data.toList j).1 ++ (info.data.toList ++ [bt]) := by simp [joined, str]
      have HJ := Lib.hid hj
      have hjl : Hid ((joined [str (Sha.parts key.data.toList info.data.toList j).1, info, str [bt]]).length ≤ 140737488355000) := by
        have h3 := HT1.out
        have h4 := HIL.out
        show _ ≤ _
        rw [hj]; simp only [List.length_append, List.length_singleton]; omega
      clear hj
      go_wp2_with fail
      refine (tag_any key (.slice (some ⟨w1.heap.size, 0, none⟩) 3 3) [str (Sha.parts key.data.toList info.data.toList j).1, info, str [bt]] _ (SliceOf.litS _ _ rfl _ 9 3 rfl (by decide) _ rfl) (by omega) (by simp [maxLen]) hjl.out).mono ?_
      rintro e w2 ⟨rfl, hb2⟩
      rw [HJ.out]
      obtain ⟨tg, htg⟩ : ∃ tg, tg = Sha.tag key.data.toList ((Sha.parts key.data.toList info.data.toList j).1 ++ (info.data.toList ++ [bt])) := ⟨_, rfl⟩
      have htl : (str tg).size = 32 := by rw [str_size, htg, Sha.tag_length]
      rw [← htg] at hst ⊢
      have HO2 := Lib.hid (ownsRow_below (HO1.out.alloc (.cells #[.string (str (Sha.parts key.data.toList info.data.toList j).1), .string info, .string (str [bt])] 9)) hb2)
      have HB2 := Lib.hid ((HB1.out.alloc hsz1 (.cells #[.string (str (Sha.parts key.data.toList info.data.toList j).1), .string info, .string (str [bt])] 9)).trans (hb2.mono (by simp; omega)))
      have hsz2 := HB2.out.size
      have HTL := Lib.hid htl
      clear hb2 htg htl HO1 HB1
      go_wp2_with (at_builtin; refine Lib.wpList_append_own_string _ rfl _ _ 41 9 rfl w.heap.size 5 i0 Tryz.underlying41 Tryz.underlying9 hi0 hz0 hz1 hz2 _ _ _ rfl HO2.out (str tg) rfl (by rw [HTL.out]; simp [maxLen]; omega) (by rw [HTL.out]; omega) hsz2 ?_)
      intro v3 w3 hown3 hgr3 _
      have hb3 : Below w.heap.size w w3 := HB2.out.grown hgr3 hsz2 (fun k hk => (HO2.out.lt k hk).1)
      have hown4 : w3.ownsRow w.heap.size 5 1 v3 (32 * (j + 1)) (bytesV (Sha.parts key.data.toList info.data.toList (j + 1)).2) := by
        rw [hst.out]
        have e : bytesV ((Sha.parts key.data.toList info.data.toList j).2 ++ tg) = bytesV (Sha.parts key.data.toList info.data.toList j).2 ++ Lib.strCells (str tg) := by simp only [bytesV, List.map_append]; rfl
        rw [e, show 32 * (j + 1) = 32 * j + (str tg).size by rw [HTL.out]; omega]
        exact hown3
      have HO4 := Lib.hid hown4
      have HB4 := Lib.hid hb3
      have hp1 : Hid ((Sha.parts key.data.toList info.data.toList (j + 1)).1 = tg) := by rw [hst.out]; rfl
      clear hown3 hgr3 hb3 hown4
      go_wp2_with fail
      go_roundg (gk - 1)
      case measure => omega
      case rel => exact ⟨j + 1, by omega, by omega, by go_num, by rw [hp1.out], HB4.out, HO4.out⟩
    · have hge : ¬ (32 * (j : Int)) < n := by omega
      have hcap' : (n : Int) ≤ capv := by omega
      have hexp : Hid (Sha.expand key.data.toList info.data.toList n = (Sha.parts key.data.toList info.data.toList j).2.take n) := by
        show _ = _
        have e : (n + 31) / 32 = j := by omega
        rw [Sha.expand, e]
      generalize hP : (Sha.parts key.data.toList info.data.toList j).2 = P2 at *
      have hl2 : (P2.take n).length = n := by rw [List.length_take, HPL.out]; omega
      obtain ⟨b6, off6, rfl, _, _⟩ := HEL.out.byte (i := 0) (by rw [HPL.out]; omega)
      have hcv := run_convert_bytes_back (P := Tryz.prog) wr 41 9 5 ⟨b6, off6, none⟩ capv (P2.take n) Tryz.underlying41 Tryz.underlying5 Tryz.underlying9 (fun i hi => by
        obtain ⟨b7, off7, e7, _, h7⟩ := (HEL.out.take n).byte hi
        cases e7
        have e8 : (⟨b6, off6, none⟩ : Addr).add i = ⟨b6, off6 + i, none⟩ := by cases i <;> simp [Addr.add]
        rw [e8, h7]
        rw [List.getD_eq_getElem?_getD, List.getElem?_eq_getElem hi]
        rfl)
      rw [hl2] at hcv
      obtain ⟨res, hres⟩ : ∃ res, res = P2.take n := ⟨_, rfl⟩
      rw [← hres] at hcv hexp
      clear hl2 hres hP
      go_wp2
      go_ret2
      exact ⟨by rw [hexp.out]; rfl, HB.out⟩
end Go.Proofs.YtofnagdofpcmpaaGreatDoor
namespace Go.Proofs.YtofnagdofpcmpaaGreatDoor
open Go.RowKit
set_option maxHeartbeats 400000 in
theorem of_any (name key : ByteArray) (w : World) (hk : key.size ≤ 140737488355000) (hi : name.size ≤ 1000000) :
    Calls Tryz.prog 76 #[.string name, .string key] w fun e w' => e = .returned (.string (str (Sha.expand key.data.toList name.data.toList 32))) ∧ Below w.heap.size w w' := by
  go_enter Tryz.func76, Tryz.ntmps76
  go_wp2_with fail
  refine (expand_any key name 32 (by decide) (by decide) _ hk hi).mono ?_
  rintro e w1 ⟨rfl, hb⟩
  go_wp2_with fail
  go_ret
  exact ⟨rfl, hb⟩
def keysV (secret salt : List UInt8) : Value := .agg #[.string (str (Sha.encKey secret salt)), .string (str (Sha.macKey secret salt)), .string (str (Sha.headKey secret))]
set_option maxHeartbeats 1000000 in
theorem keys_any (secret salt : ByteArray) (w : World) (h1 : secret.size ≤ 140737488355000) (h2 : salt.size ≤ 140737488355000) :
    Calls Tryz.prog 40 #[.string secret, .string salt] w fun e w' => e = .returned (keysV secret.data.toList salt.data.toList) ∧ Below w.heap.size w w' := by
  have ht : ∀ a b, (str (Sha.tag a b)).size ≤ 140737488355000 := fun a b => by rw [str_size, Sha.tag_length]; decide
  have HT := Lib.hid ht
  clear ht
  go_enter Tryz.func40, Tryz.ntmps40
  go_wp2_with fail
  refine (extract_any salt secret _ h2 h1).mono ?_
  rintro e w1 ⟨rfl, hb1⟩
  have hB1 : Below w.heap.size w w1 := ((Below.refl w.heap.size w).alloc (Nat.le_refl _) _).trans (hb1.mono (by simp))
  have hg1 : w1.heap[w.heap.size]? = _ := heap_below (heap_alloc_new _ _) hb1
  have HB1 := Lib.hid hB1
  have HG1 := Lib.hid hg1
  have hs1 := hB1.size
  clear hb1 hB1 hg1
  go_wp2_with fail
  refine (of_any (str Sha.forBytes) _ _ (HT.out _ _) (by decide)).mono ?_
  rintro e w2 ⟨rfl, hb2⟩
  have HB2 := Lib.hid (HB1.out.trans (hb2.mono hs1))
  have HG2 := Lib.hid (heap_below HG1.out hb2)
  have hs2 := HB2.out.size
  clear hb2 HB1 HG1
  go_wp2_with fail
  refine (of_any (str Sha.forTags) _ _ (HT.out _ _) (by decide)).mono ?_
  rintro e w3 ⟨rfl, hb3⟩
  have HB3 := Lib.hid (HB2.out.trans (hb3.mono hs2))
  have HG3 := Lib.hid (heap_below HG2.out hb3)
  have hs3 := HB3.out.size
  clear hb3 HB2 HG2
  go_wp2_with fail
  refine (extract_any (str []) secret _ (by decide) h1).mono ?_
  rintro e w4 ⟨rfl, hb4⟩
  have HB4 := Lib.hid (HB3.out.trans (hb4.mono hs3))
  have HG4 := Lib.hid (heap_below HG3.out hb4)
  have hs4 := HB4.out.size
  clear hb4 HB3 HG3
  go_wp2_with fail
  refine (of_any (str Sha.forHeads) _ _ (HT.out _ _) (by decide)).mono ?_
  rintro e w5 ⟨rfl, hb5⟩
  have HB5 := Lib.hid (HB4.out.trans (hb5.mono hs4))
  have hg5 := heap_below HG4.out hb5
  clear hb5 HB4 HG4
  have c0 := cell_of hg5 0
  have c1 := cell_of hg5 1
  have c2 := cell_of hg5 2
  have z0 := frozen_of hg5 0
  have z1 := frozen_of hg5 1
  have z2 := frozen_of hg5 2
  simp at c0 c1 c2
  have HG5 := Lib.hid hg5
  clear hg5
  have hb6 := ((HB5.out.setCell (p := ⟨w.heap.size, 0, none⟩) (Nat.le_refl _) (.string (str (Sha.encKey secret.data.toList salt.data.toList)))).setCell (p := ⟨w.heap.size, 1, none⟩) (Nat.le_refl _) (.string (str (Sha.macKey secret.data.toList salt.data.toList)))).setCell (p := ⟨w.heap.size, 2, none⟩) (Nat.le_refl _) (.string (str (Sha.headKey secret.data.toList)))
  have hW := heap_setCell (heap_setCell (heap_setCell HG5.out 0 (.string (str (Sha.encKey secret.data.toList salt.data.toList)))) 1 (.string (str (Sha.macKey secret.data.toList salt.data.toList)))) 2 (.string (str (Sha.headKey secret.data.toList)))
  have HW := Lib.hid hW
  have HB6 := Lib.hid hb6
  clear hW hb6
  go_wp2
  refine bodyPost_ret (v := keysV secret.data.toList salt.data.toList) ?r ?d ?fin
  case fin => exact ⟨rfl, HB6.out⟩
  case d => rfl
  case r => exact results_cell_row Tryz.results40 _ _ w.heap.size _ _ (0, 0) _ rfl HW.out Tryz.underlying78 rfl (by kernel_rfl)
end Go.Proofs.YtofnagdofpcmpaaGreatDoor
namespace Go.Proofs.YtofnagdofpcmpaaGreatDoor
open Go.RowKit
set_option maxHeartbeats 400000 in
theorem width_any (x : Int) (w : World) :
    Calls Tryz.prog 159 #[.int .i64 x] w fun e w' => e = .returned (.int .i64 (Sha.width x : Nat)) ∧ w = w' := by
  have hc : (x < 1 ∧ Sha.width x = 1) ∨ (1 ≤ x ∧ x ≤ 32 ∧ (Sha.width x : Int) = x) ∨ (32 < x ∧ Sha.width x = 32) := by unfold Sha.width; omega
  rcases hc with ⟨h1, h2⟩ | ⟨h1, h2, h3⟩ | ⟨h1, h2⟩
  · rw [h2]
    clear h2
    go_enter Tryz.func159, Tryz.ntmps159
    go_wp2
    go_ret
    exact ⟨rfl, rfl⟩
  · rw [h3]
    clear h3
    go_enter Tryz.func159, Tryz.ntmps159
    go_wp2
    all_goals
      go_ret
      exact ⟨by first | rfl | (congr 2; omega), rfl⟩
  · rw [h2]
    clear h2
    go_enter Tryz.func159, Tryz.ntmps159
    go_wp2
    all_goals
      go_ret
      exact ⟨by first | rfl | (congr 2; omega), rfl⟩
set_option maxHeartbeats 400000 in
theorem msum_any (x : Int) (v : Value) (ss : List ByteArray) (w : World) (hs : SliceOf strS w v ss) (hlen : ss.length ≤ maxLen) (hsz : (joined ss).length ≤ 140737488355200) :
    Calls Tryz.prog 128 #[.int .i64 x, v] w fun e w' => e = .returned (.string (str (Sha.msum x (joined ss)))) ∧ Below w.heap.size w w' := by
  have hl : (str (Sha.sum (joined ss))).size = 32 := by rw [str_size, Sha.sum_length]
  have hw : Sha.width x ≤ 32 := by unfold Sha.width; omega
  go_enter Tryz.func128, Tryz.ntmps128
  go_wp2_with fail
  refine (shasum_any v ss _ hs hlen hsz).mono ?_
  rintro e w1 ⟨rfl, hb⟩
  obtain ⟨sm, hsm⟩ : ∃ sm, sm = str (Sha.sum (joined ss)) := ⟨_, rfl⟩
  have hfin : str (Sha.msum x (joined ss)) = sm.extract 0 (Sha.width x) := by
    rw [hsm, str, ByteArray.extract_mk]
    rfl
  rw [show (⟨(Sha.sum (joined ss)).toArray⟩ : ByteArray) = sm from hsm.symm]
  rw [← hsm] at hl
  have hl' : (sm.size : Int) = 32 := by omega
  have HF := Lib.hid hfin
  have HL := Lib.hid hl
  have hw1 : Sha.width x ≤ sm.size := by omega
  have hw2 : ((Sha.width x : Nat) : Int) ≤ sm.size := by omega
  clear hsm hfin hl hl'
  go_wp2_with fail
  refine (width_any x _).mono ?_
  rintro e w' ⟨rfl, rfl⟩
  go_wp2_with fail
  go_ret
  exact ⟨by rw [HF.out]; rfl, hb⟩
end Go.Proofs.YtofnagdofpcmpaaGreatDoor
namespace Go.Proofs.YtofnagdofpcmpaaGreatDoor
open Go.ChangeShapes Go.WideShapes Go.ChangeAt Go.RowKit
structure Header where
  id : Int
  salt : ByteArray
  n : Int
  bytes : Int
  raw : Int
  root : ByteArray
  tag : ByteArray
def Header.cells (h : Header) : List Value := [.int .i64 h.id, .string h.salt, .int .i64 h.n, .int .i64 h.bytes, .int .i64 h.raw, .string h.root, .string h.tag]
theorem cellsInt : Tryz.prog.cellsOf 3 = 1 := by kernel_rfl
theorem cellsStr : Tryz.prog.cellsOf 9 = 1 := by kernel_rfl
theorem cellsHeader : Tryz.prog.cellsOf 34 = 7 := by kernel_rfl
end Go.Proofs.YtofnagdofpcmpaaGreatDoor
namespace Go.Proofs.YtofnagdofpcmpaaGreatDoor
open Go.RowKit
def Header.val (h : Header) : Value := .agg #[.int .i64 h.id, .string h.salt, .int .i64 h.n, .int .i64 h.bytes, .int .i64 h.raw, .string h.root, .string h.tag]
end Go.Proofs.YtofnagdofpcmpaaGreatDoor
namespace Go.Proofs.YtofnagdofpcmpaaGreatDoor
open Go.RowKit
def sameTexts (xs ys : List ByteArray) : Bool := decide (xs = ys)
theorem text_beq (x y : ByteArray) : (x.toList == y.toList) = decide (x = y) := by
  by_cases h : x = y
  · subst h; simp
  · rw [decide_eq_false h, beq_eq_false_iff_ne]
    intro e
    exact h (by apply ByteArray.ext; apply Array.ext'; rw [← ByteArray.toList_eq, ← ByteArray.toList_eq, e])
set_option maxRecDepth 100000 in
set_option maxHeartbeats 1000000 in
theorem rsame_any (v1 v2 : Value) (xs ys : List ByteArray) (w : World) (h1 : SliceOf strS w v1 xs) (h2 : SliceOf strS w v2 ys) (hsz : xs.length ≤ 140737488355327) :
    Calls Tryz.prog 8 #[v1, v2] w fun e w' => e = .returned (.bool (sameTexts xs ys)) ∧ Below w.heap.size w w' := by
  obtain ⟨a1, c1, rfl, he1⟩ := h1
  obtain ⟨a2, c2, rfl, he2⟩ := h2
  obtain ⟨r, hr⟩ : ∃ r, r = sameTexts xs ys := ⟨_, rfl⟩
  rw [← hr]
  have HR := Lib.hid hr
  clear hr
  have H1 := Lib.hid he1
  have H2 := Lib.hid he2
  clear he1 he2
  by_cases hl : xs.length = ys.length
  case neg =>
    have e : r = false := by rw [HR.out]; exact decide_eq_false (fun h => hl (by rw [h]))
    have hl' : ((xs.length : Int) == ys.length) = false := by simp; omega
    subst e
    go_enter Tryz.func8, Tryz.ntmps8
    go_wp2_with fail
    go_ret
    exact ⟨rfl, Below.refl _ _⟩
  have hl' : (xs.length : Int) = ys.length := by omega
  go_enter Tryz.func8, Tryz.ntmps8
  go_wp2_with fail
  go_loopw [5] (fun i wr => ∃ t : Nat, t ≤ xs.length ∧ i = .int .i64 t ∧ Hid (∀ j, j < t → xs[j]? = ys[j]?) ∧ Same w wr) (fun i _ => xs.length - (intOf i).toNat)
  case atStart => exact ⟨0, Nat.zero_le _, rfl, fun j hj => absurd hj (by omega), ⟨rfl, rfl, rfl, rfl⟩⟩
  case round =>
    obtain ⟨t, ht, rfl, hj, hw⟩ := hrel
    have HW := Lib.hid hw
    clear hw
    by_cases hlt : t < xs.length
    · have hlt' : (t : Int) < xs.length := by omega
      have hlt2 : (t : Int) < ys.length := by omega
      obtain ⟨g1, o1, rfl, hg1, d1⟩ := H1.out.str hlt
      obtain ⟨g2, o2, rfl, hg2, d2⟩ := H2.out.str (show t < ys.length by omega)
      have d1' := HW.out.cell d1
      have d2' := HW.out.cell d2
      clear d1 d2 hg1 hg2
      have t0 : (0 : Int) ≤ t := by omega
      by_cases hx : xs[t] = ys[t]
      · have hb : (xs[t].toList == ys[t].toList) = true := by rw [hx]; simp
        have hj2 : Hid (∀ j, j < t + 1 → xs[j]? = ys[j]?) := by
          intro j hjt
          by_cases h : j < t
          · exact hj j h
          · have : j = t := by omega
            subst this
            rw [List.getElem?_eq_getElem hlt, List.getElem?_eq_getElem (by omega), hx]
        clear hj hx
        go_wp2
        go_quiet (fail)
        have HW2 := Lib.hid (HW.out.trans (Same.drewN wr nq))
        clear HW
        generalize wr.drewN nq = w2 at *
        go_wp2
        go_roundw
        case rel => exact ⟨t + 1, by omega, by go_num, hj2, HW2.out⟩
        case measure => simp [intOf]; omega
      · have hb : (xs[t].toList == ys[t].toList) = false := by rw [text_beq]; exact decide_eq_false hx
        have e : r = false := by
          rw [HR.out]
          exact decide_eq_false (fun h => hx (by subst h; rfl))
        subst e
        clear hj hx
        go_wp2
        go_quiet (fail)
        have HW2 := Lib.hid ((HW.out.trans (Same.drewN wr nq)).below w.heap.size)
        clear HW
        generalize wr.drewN nq = w2 at *
        go_wp2
        go_ret
        exact ⟨rfl, HW2.out⟩
    · have et : t = xs.length := by omega
      subst et
      have e : r = true := by
        rw [HR.out]
        refine decide_eq_true (List.ext_getElem? fun j => ?_)
        by_cases h : j < xs.length
        · exact hj j h
        · rw [List.getElem?_eq_none (by omega), List.getElem?_eq_none (by omega)]
      subst e
      clear hj
      go_wp2
      go_ret
      exact ⟨rfl, HW.out.below _⟩
end Go.Proofs.YtofnagdofpcmpaaGreatDoor
namespace Go.Proofs.YtofnagdofpcmpaaGreatDoor
open Go.RowKit
instance : DecidableEq Header := fun a b => by
  cases a; cases b
  simp only [Header.mk.injEq]
  exact inferInstance
set_option maxRecDepth 100000 in
theorem head_eq (h k : Header) (w : World) : (Op.equalIn 10000 34 h.val k.val).run Tryz.prog w = .ok (decide (h = k)) w := by
  obtain ⟨h0, h1, h2, h3, h4, h5, h6⟩ := h
  obtain ⟨k0, k1, k2, k3, k4, k5, k6⟩ := k
  simp only [Header.val]
  rw [run_equalIn_agg w 9999 _ _ _ (by simp [Program.fieldsOf, Tryz.underlying34]) (by kernel_rfl)]
  have pi : Tryz.prog.plainKey 3 = true := by kernel_rfl
  have ps : Tryz.prog.plainKey 9 = true := by kernel_rfl
  have pX0 (W : World) : (part 3 #[.int .i64 h0, .string h1, .int .i64 h2, .int .i64 h3, .int .i64 h4, .string h5, .string h6] 0).run Tryz.prog W = .ok (.int .i64 h0) W := run_part_plain W pi rfl
  have pX1 (W : World) : (part 9 #[.int .i64 h0, .string h1, .int .i64 h2, .int .i64 h3, .int .i64 h4, .string h5, .string h6] 1).run Tryz.prog W = .ok (.string h1) W := run_part_plain W ps rfl
  have pX2 (W : World) : (part 3 #[.int .i64 h0, .string h1, .int .i64 h2, .int .i64 h3, .int .i64 h4, .string h5, .string h6] 2).run Tryz.prog W = .ok (.int .i64 h2) W := run_part_plain W pi rfl
  have pX3 (W : World) : (part 3 #[.int .i64 h0, .string h1, .int .i64 h2, .int .i64 h3, .int .i64 h4, .string h5, .string h6] 3).run Tryz.prog W = .ok (.int .i64 h3) W := run_part_plain W pi rfl
  have pX4 (W : World) : (part 3 #[.int .i64 h0, .string h1, .int .i64 h2, .int .i64 h3, .int .i64 h4, .string h5, .string h6] 4).run Tryz.prog W = .ok (.int .i64 h4) W := run_part_plain W pi rfl
  have pX5 (W : World) : (part 9 #[.int .i64 h0, .string h1, .int .i64 h2, .int .i64 h3, .int .i64 h4, .string h5, .string h6] 5).run Tryz.prog W = .ok (.string h5) W := run_part_plain W ps rfl
  have pX6 (W : World) : (part 9 #[.int .i64 h0, .string h1, .int .i64 h2, .int .i64 h3, .int .i64 h4, .string h5, .string h6] 6).run Tryz.prog W = .ok (.string h6) W := run_part_plain W ps rfl
  generalize (#[.int .i64 h0, .string h1, .int .i64 h2, .int .i64 h3, .int .i64 h4, .string h5, .string h6] : Array Value) = X at *
  have pY0 (W : World) : (part 3 #[.int .i64 k0, .string k1, .int .i64 k2, .int .i64 k3, .int .i64 k4, .string k5, .string k6] 0).run Tryz.prog W = .ok (.int .i64 k0) W := run_part_plain W pi rfl
  have pY1 (W : World) : (part 9 #[.int .i64 k0, .string k1, .int .i64 k2, .int .i64 k3, .int .i64 k4, .string k5, .string k6] 1).run Tryz.prog W = .ok (.string k1) W := run_part_plain W ps rfl
  have pY2 (W : World) : (part 3 #[.int .i64 k0, .string k1, .int .i64 k2, .int .i64 k3, .int .i64 k4, .string k5, .string k6] 2).run Tryz.prog W = .ok (.int .i64 k2) W := run_part_plain W pi rfl
  have pY3 (W : World) : (part 3 #[.int .i64 k0, .string k1, .int .i64 k2, .int .i64 k3, .int .i64 k4, .string k5, .string k6] 3).run Tryz.prog W = .ok (.int .i64 k3) W := run_part_plain W pi rfl
  have pY4 (W : World) : (part 3 #[.int .i64 k0, .string k1, .int .i64 k2, .int .i64 k3, .int .i64 k4, .string k5, .string k6] 4).run Tryz.prog W = .ok (.int .i64 k4) W := run_part_plain W pi rfl
  have pY5 (W : World) : (part 9 #[.int .i64 k0, .string k1, .int .i64 k2, .int .i64 k3, .int .i64 k4, .string k5, .string k6] 5).run Tryz.prog W = .ok (.string k5) W := run_part_plain W ps rfl
  have pY6 (W : World) : (part 9 #[.int .i64 k0, .string k1, .int .i64 k2, .int .i64 k3, .int .i64 k4, .string k5, .string k6] 6).run Tryz.prog W = .ok (.string k6) W := run_part_plain W ps rfl
  generalize (#[.int .i64 k0, .string k1, .int .i64 k2, .int .i64 k3, .int .i64 k4, .string k5, .string k6] : Array Value) = Y at *
  have qi (x y : Int) (W : World) : (Op.equalIn 9999 3 (.int .i64 x) (.int .i64 y)).run Tryz.prog W = .ok (x == y) W := run_equalIn_int W 9998 _ _ _ x y Tryz.underlying3
  have qs (x y : ByteArray) (W : World) : (Op.equalIn 9999 9 (.string x) (.string y)).run Tryz.prog W = .ok (x.toList == y.toList) W := run_equalIn_string W 9998 _ x y Tryz.underlying9
  by_cases e0 : h0 = k0
  case neg => simp [Program.fieldsOf, Tryz.underlying34, Op.eqFields, pX0, pY0, qi, qs, text_beq, e0]
  by_cases e1 : h1 = k1
  case neg => simp [Program.fieldsOf, Tryz.underlying34, Op.eqFields, pX0, pY0, pX1, pY1, qi, qs, text_beq, e0, e1]
  by_cases e2 : h2 = k2
  case neg => simp [Program.fieldsOf, Tryz.underlying34, Op.eqFields, pX0, pY0, pX1, pY1, pX2, pY2, qi, qs, text_beq, e0, e1, e2]
  by_cases e3 : h3 = k3
  case neg => simp [Program.fieldsOf, Tryz.underlying34, Op.eqFields, pX0, pY0, pX1, pY1, pX2, pY2, pX3, pY3, qi, qs, text_beq, e0, e1, e2, e3]
  by_cases e4 : h4 = k4
  case neg => simp [Program.fieldsOf, Tryz.underlying34, Op.eqFields, pX0, pY0, pX1, pY1, pX2, pY2, pX3, pY3, pX4, pY4, qi, qs, text_beq, e0, e1, e2, e3, e4]
  by_cases e5 : h5 = k5
  case neg => simp [Program.fieldsOf, Tryz.underlying34, Op.eqFields, pX0, pY0, pX1, pY1, pX2, pY2, pX3, pY3, pX4, pY4, pX5, pY5, qi, qs, text_beq, e0, e1, e2, e3, e4, e5]
  by_cases e6 : h6 = k6 <;> simp [Program.fieldsOf, Tryz.underlying34, Op.eqFields, pX0, pY0, pX1, pY1, pX2, pY2, pX3, pY3, pX4, pY4, pX5, pY5, pX6, pY6, qi, qs, text_beq, e0, e1, e2, e3, e4, e5, e6]
end Go.Proofs.YtofnagdofpcmpaaGreatDoor
namespace Go.Proofs.YtofnagdofpcmpaaGreatDoor
open Go.RowKit
def archC (h : Header) (sl : Value) : Array Value := #[.int .i64 h.id, .string h.salt, .int .i64 h.n, .int .i64 h.bytes, .int .i64 h.raw, .string h.root, .string h.tag, sl]
def sameArch (h k : Header) (xs ys : List ByteArray) : Bool := decide (h = k ∧ xs = ys)
structure TwoAt (w W : World) (C D : Array Value) : Prop where
  below : Below w.heap.size w W
  a : W.heap[w.heap.size]? = some (.cells C 36 (0, 0))
  b : W.heap[w.heap.size + 1]? = some (.cells D 36 (0, 0))
theorem TwoAt.start (w : World) (C D : Array Value) : TwoAt w ((w.alloc (.cells C 36 (0, 0))).alloc (.cells D 36 (0, 0))) C D :=
  ⟨((Below.refl _ _).alloc (Nat.le_refl _) _).alloc (by simp) _, heap_alloc_old (heap_alloc_new _ _), heap_alloc_at (by simp) _⟩
set_option maxRecDepth 100000 in
set_option maxHeartbeats 1000000 in
theorem rsamearch_any (h k : Header) (v1 v2 : Value) (xs ys : List ByteArray) (w : World) (h1 : SliceOf strS w v1 xs) (h2 : SliceOf strS w v2 ys) (hsz : xs.length ≤ 140737488355327) :
    Calls Tryz.prog 13 #[.agg (archC h v1), .agg (archC k v2)] w fun e w' => e = .returned (.bool (sameArch h k xs ys)) ∧ Below w.heap.size w w' := by
  obtain ⟨r, hr⟩ : ∃ r, r = sameArch h k xs ys := ⟨_, rfl⟩
  rw [← hr]
  have HR := Lib.hid hr
  have HT := Lib.hid (TwoAt.start w (archC h v1) (archC k v2))
  have H1 := Lib.hid (h1.mono HT.out.below)
  have H2 := Lib.hid (h2.mono HT.out.below)
  obtain ⟨a1, c1, rfl, -⟩ := h1
  obtain ⟨a2, c2, rfl, -⟩ := h2
  have hq := fun W => head_eq h k W
  clear hr
  simp only [archC, Header.val] at HT hq ⊢
  by_cases hx : h = k
  · have e : decide (h = k) = true := decide_eq_true hx
    have er : r = sameTexts xs ys := by rw [HR.out]; unfold sameArch sameTexts; simp [hx]
    have HE := Lib.hid er
    rw [e] at hq
    clear e hx er HR
    go_enter Tryz.func13, Tryz.ntmps13
    go_wp2_with fail
    refine (rsame_any _ _ xs ys _ H1.out H2.out hsz).mono ?_
    rintro e w1 ⟨rfl, hb1⟩
    have HB := Lib.hid (HT.out.below.trans (hb1.mono HT.out.below.size))
    rw [← HE.out]
    clear hb1 hq
    cases r
    · go_wp2_with fail
      go_ret
      exact ⟨rfl, HB.out⟩
    · go_wp2_with fail
      go_ret
      exact ⟨rfl, HB.out⟩
  · have e : decide (h = k) = false := decide_eq_false hx
    have er : r = false := by rw [HR.out]; exact decide_eq_false (fun x => hx x.1)
    rw [e] at hq
    subst er
    clear e hx HR
    go_enter Tryz.func13, Tryz.ntmps13
    go_wp2_with fail
    go_ret
    exact ⟨rfl, HT.out.below⟩
set_option maxRecDepth 100000 in
set_option maxHeartbeats 2000000 in
theorem samearch_any (h k : Header) (v1 v2 : Value) (xs ys : List ByteArray) (w : World) (h1 : SliceOf strS w v1 xs) (h2 : SliceOf strS w v2 ys) (hsz : xs.length ≤ 140737488355327) :
    Calls Tryz.prog 12 #[.agg (archC h v1), .agg (archC k v2)] w fun e w' => e = .returned (.bool (sameArch h k xs ys)) ∧ Below w.heap.size w w' := by
  obtain ⟨r, hr⟩ : ∃ r, r = sameArch h k xs ys := ⟨_, rfl⟩
  rw [← hr]
  have HR := Lib.hid hr
  have HT := Lib.hid (TwoAt.start w (archC h v1) (archC k v2))
  obtain ⟨a1, c1, rfl, he1⟩ := h1
  obtain ⟨a2, c2, rfl, he2⟩ := h2
  have H1 := Lib.hid (he1.mono HT.out.below)
  have H2 := Lib.hid (he2.mono HT.out.below)
  have hq := fun W => head_eq h k W
  clear hr he1 he2
  simp only [archC, Header.val] at HT hq H1 H2 ⊢
  by_cases hx : h = k
  case neg =>
    have e : decide (h = k) = false := decide_eq_false hx
    have er : r = false := by rw [HR.out]; exact decide_eq_false (fun x => hx x.1)
    rw [e] at hq
    subst er
    clear e hx HR
    go_enter Tryz.func12, Tryz.ntmps12
    go_wp2_with fail
    go_ret
    exact ⟨rfl, HT.out.below⟩
  have e : decide (h = k) = true := decide_eq_true hx
  have er : r = sameTexts xs ys := by rw [HR.out]; unfold sameArch sameTexts; simp [hx]
  have HE := Lib.hid er
  rw [e] at hq
  clear e hx er HR
  by_cases hl : xs.length = ys.length
  case neg =>
    have e : r = false := by rw [HE.out]; exact decide_eq_false (fun h => hl (by rw [h]))
    have hl' : ((xs.length : Int) == ys.length) = false := by simp; omega
    subst e
    clear HE
    go_enter Tryz.func12, Tryz.ntmps12
    go_wp2_with fail
    go_ret
    exact ⟨rfl, HT.out.below⟩
  have hl' : ((xs.length : Int) == (ys.length : Int)) = true := by simp [hl]
  have HL := Lib.hid hl
  clear hl
  go_enter Tryz.func12, Tryz.ntmps12
  go_wp2_with fail
  clear hl'
  generalize (w.alloc (.cells #[.int .i64 h.id, .string h.salt, .int .i64 h.n, .int .i64 h.bytes, .int .i64 h.raw, .string h.root, .string h.tag, .slice a1 xs.length c1] 36 (0, 0))).alloc (.cells #[.int .i64 k.id, .string k.salt, .int .i64 k.n, .int .i64 k.bytes, .int .i64 k.raw, .string k.root, .string k.tag, .slice a2 ys.length c2] 36 (0, 0)) = w0 at *
  clear hq
  go_loopw [24] (fun i wr => ∃ t : Nat, t ≤ xs.length ∧ i = .int .i64 t ∧ Hid (∀ j, j < t → xs[j]? = ys[j]?) ∧ Same w0 wr) (fun i _ => xs.length - (intOf i).toNat)
  case atStart => exact ⟨0, Nat.zero_le _, rfl, fun j hj => absurd hj (by omega), ⟨rfl, rfl, rfl, rfl⟩⟩
  case round =>
    obtain ⟨t, ht, rfl, hj, hw⟩ := hrel
    by_cases hlt : t < xs.length
    · have hlt' : (t : Int) < xs.length := by omega
      have hl := HL.out
      have hlt2 : (t : Int) < ys.length := by omega
      have hlt3 : t < ys.length := by omega
      clear hl
      obtain ⟨g1, o1, rfl, hg1, d1⟩ := H1.out.str hlt
      obtain ⟨g2, o2, rfl, hg2, d2⟩ := H2.out.str hlt3
      have d1' := hw.cell d1
      have d2' := hw.cell d2
      have y7 := cell_of (hw.at HT.out.b) 7
      simp at y7
      have HW := Lib.hid hw
      clear d1 d2 hg1 hg2 hw
      have t0 : (0 : Int) ≤ t := by omega
      by_cases hx : xs[t] = ys[t]
      · have hb : (xs[t].toList == ys[t].toList) = true := by rw [hx]; simp
        have hj2 : Hid (∀ j, j < t + 1 → xs[j]? = ys[j]?) := by
          intro j hjt
          by_cases h : j < t
          · exact hj j h
          · have : j = t := by omega
            subst this
            rw [List.getElem?_eq_getElem hlt, List.getElem?_eq_getElem hlt3, hx]
        clear hj hx
        go_wp2
        go_roundw
        case rel => exact ⟨t + 1, by omega, by go_num, hj2, HW.out⟩
        case measure => simp [intOf]; omega
      · have hb : (xs[t].toList == ys[t].toList) = false := by rw [text_beq]; exact decide_eq_false hx
        have e : r = false := by
          rw [HE.out]
          exact decide_eq_false (fun h => hx (by subst h; rfl))
        subst e
        clear hj hx HE
        go_wp2
        go_ret
        exact ⟨rfl, HT.out.below.trans (HW.out.below _)⟩
    · have et : t = xs.length := by omega
      subst et
      have e : r = true := by
        rw [HE.out]
        refine decide_eq_true (List.ext_getElem? fun j => ?_)
        by_cases h : j < xs.length
        · exact hj j h
        · rw [List.getElem?_eq_none (by omega), List.getElem?_eq_none (by have := HL.out; omega)]
      subst e
      have HW := Lib.hid hw
      clear hj hw HE
      go_wp2
      go_ret
      exact ⟨rfl, HT.out.below.trans (HW.out.below _)⟩
end Go.Proofs.YtofnagdofpcmpaaGreatDoor
