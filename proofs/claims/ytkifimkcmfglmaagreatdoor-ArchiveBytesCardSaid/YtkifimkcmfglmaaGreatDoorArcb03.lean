/-
  The walks of enc: numbers of so many bytes.
  The walks of kdf.
  The walks of kdf: the keys of an archive.
  The walks of merkle: widths, sums, cuts.
  The walks of merkle: how many leaves stand on the left.
  The program's types in memory.
  The walks of header: its fields, its check.
  The walks of the searches in lists of texts, and of headers.
  The walks of the searches in lists of headers.
  The walks of the searches for a header, and of the tests whether two archives are the same.
  The walk of enc.Take.
  The walks of the document's answer for layer 1: numbers as bytes, and back; lists of texts.
  The walks of header: its check.
  The walks of header: it is verified.
  The walk of header.Take.
  The walk of header.Take: what is no header.
  What header.Take answers, as a header and a number.
-/
import Derived.Test.YtkifimkcmfglmaaGreatDoorArcb02
import Derived.Test.YtkifimkcmfglmaaGreatDoorArcb01
import Derived.Deep.CutRange
import Derived.DeepKeys
import Derived.Deep.RegionHeld3
set_option linter.all false
namespace Go.Proofs.YtkifimkcmfglmaaGreatDoor
open Go.RowKit
theorem fixed_cons (n : Int) : ∀ k, Sha.fixed n (k + 1) = UInt8.ofNat (n / 256 ^ k % 256).toNat :: Sha.fixed n k := by
  intro k
  induction k generalizing n with
  | zero => simp [Sha.fixed]
  | succ k ih =>
    rw [Sha.fixed, ih (n / 256), Sha.fixed]
    rw [Int.ediv_ediv_of_nonneg (by decide), ← Int.pow_succ', List.cons_append]
theorem fixed_drop (n : Int) (k : Nat) : ∀ j, (Sha.fixed n (k + j)).drop j = Sha.fixed n k
  | 0 => rfl
  | j + 1 => by rw [← Nat.add_assoc, fixed_cons, List.drop_succ_cons]; exact fixed_drop n k j
theorem fixed_byte (n : Int) (k : Nat) : byteV (UInt8.ofNat (n / 256 ^ k % 256).toNat) = .int .u8 (n / 256 ^ k % 256) := by
  unfold byteV
  congr 1
  rw [UInt8.toNat_ofNat']
  have : 0 ≤ n / 256 ^ k % 256 := Int.emod_nonneg _ (by decide)
  have : n / 256 ^ k % 256 < 256 := Int.emod_lt_of_pos _ (by decide)
  omega
theorem fixed_step (n : Int) (t : Nat) (ht : t < 8) :
    (List.replicate (8 - t) (Value.int .u8 0) ++ bytesV (Sha.fixed n t)).toArray.setIfInBounds (7 - t) (.int .u8 (n / 2 ^ (8 * t) % 256)) = (List.replicate (8 - (t + 1)) (Value.int .u8 0) ++ bytesV (Sha.fixed n (t + 1))).toArray := by
  have e1 : n / 2 ^ (8 * t) % 256 = n / 256 ^ t % 256 := by rw [Int.pow_mul]; rfl
  have e2 : bytesV (Sha.fixed n (t + 1)) = Value.int .u8 (n / 256 ^ t % 256) :: bytesV (Sha.fixed n t) := by
    rw [fixed_cons, ← fixed_byte]; rfl
  rw [e1, e2]
  apply Array.ext'
  rw [Array.toList_setIfInBounds]
  show List.set (List.replicate (8 - t) (Value.int .u8 0) ++ bytesV (Sha.fixed n t)) (7 - t) _ = _
  rw [show 8 - t = (8 - (t + 1)) + 1 by omega, List.replicate_succ', show 7 - t = 8 - (t + 1) by omega, List.append_assoc]
  rw [List.set_append_right _ _ (by simp)]
  simp
set_option maxRecDepth 100000 in
theorem slice8 (g k : Nat) (hk1 : 1 ≤ k) (hk : k ≤ 8) (w : World) :
    (Instr.sliceAt 145 (.pointer (some ⟨g, 0, none⟩)) (some (.int .i64 (8 - (k : Int)))) none none).run Tryz.prog w = .ok (.slice (some ⟨g, 8 - k, none⟩) k k) w := by
  have hl : Tryz.prog.arrayLen 145 = 8 := by kernel_rfl
  have he : Tryz.prog.elem 145 = 5 := by kernel_rfl
  have hs : (sizeOf 5).run Tryz.prog w = .ok 1 w := by
    obtain ⟨i0, hi, _, hz1, _⟩ := info_parts info_byte
    simp [sizeOf, typeInfo, hi, hz1]
  rw [run_sliceAt_array_l w _ _ (by rw [hl, he]; exact Tryz.underlying145) _ _ (by omega) (by rw [hl]; omega), he, hs, hl]
  have e : (8 - (k : Int)).toNat = 8 - k := by omega
  simp only [Result.andThen_ok, slicedAt, e]
  rw [if_neg (by omega), show 8 - (8 - k) = k by omega]
  congr 2
  simp only [Addr.add]
  split
  · rename_i h
    have : 8 - k = 0 := by omega
    simp [this]
  · simp
set_option maxRecDepth 100000 in
set_option maxHeartbeats 1000000 in
theorem fixed_any (n : Int) (k : Nat) (hk1 : 1 ≤ k) (hk : k ≤ 8) (w : World) :
    Calls Tryz.prog 60 #[.int .i64 n, .int .i64 k] w fun e w' => e = .returned (.string (str (Sha.fixed n k))) ∧ Below w.heap.size w w' := by
  go_enter Tryz.func60, Tryz.ntmps60
  go_wp2_with fail
  go_loopw [7] (fun i wr => ∃ t : Nat, t ≤ 8 ∧ i = .int .i64 t ∧ Below w.heap.size w wr ∧ wr.heap[w.heap.size]? = some (.cells (List.replicate (8 - t) (Value.int .u8 0) ++ bytesV (Sha.fixed n t)).toArray 145 (0, 0))) (fun i _ => 8 - (intOf i).toNat)
  case atStart => exact ⟨0, by omega, rfl, (Below.refl _ _).alloc (Nat.le_refl _) _, heap_alloc_new _ _⟩
  case round =>
    obtain ⟨t, ht, rfl, hb, hg⟩ := hrel
    have HB := Lib.hid hb
    have HG := Lib.hid hg
    by_cases hlt : t < 8
    · have c := cell_of hg (7 - t)
      have z := frozen_of hg (7 - t)
      have e0 : (List.replicate (8 - t) (Value.int .u8 0) ++ bytesV (Sha.fixed n t)).toArray[7 - t]? = some (.int .u8 0) := by
        rw [List.getElem?_toArray, List.getElem?_append_left (by simp; omega), List.getElem?_replicate, if_pos (by omega)]
      rw [e0] at c
      obtain ⟨x7, y7, z7⟩ := idx (7 - (t : Int)) (7 - t) (by omega) (by omega)
      clear hb hg e0
      have l1 : 7 - (t : Int) < 8 := by omega
      have l2 : (t : Int) ≤ 7 := by omega
      go_wp2
      go_roundw
      case rel => exact ⟨t + 1, by omega, by go_num, HB.out.setCell (Nat.le_refl _) _, by rw [heap_setCell HG.out, fixed_step n t hlt]⟩
      case measure => simp [intOf]; omega
    · have et : t = 8 := by omega
      rw [et, Nat.sub_self, List.replicate_zero, List.nil_append] at hg
      have hcv := run_convert_bytes_back (P := Tryz.prog) wr 66 9 5 ⟨w.heap.size, 8 - k, none⟩ k (Sha.fixed n k) Tryz.underlying66 Tryz.underlying5 Tryz.underlying9 (fun j hj => by
        rw [Sha.fixed_length] at hj
        have e8 : (⟨w.heap.size, 8 - k, none⟩ : Addr).add j = ⟨w.heap.size, 8 - k + j, none⟩ := by cases j <;> simp [Addr.add]
        have e9 := fixed_drop n k (8 - k)
        rw [show k + (8 - k) = 8 by omega] at e9
        rw [e8, cell_of hg, List.getElem?_toArray]
        have e10 : (bytesV (Sha.fixed n 8))[8 - k + j]? = (bytesV (Sha.fixed n k))[j]? := by
          rw [← e9]; simp [bytesV]
        rw [e10]
        simp [bytesV, byteV, Sha.fixed_length, hj])
      rw [Sha.fixed_length] at hcv
      have k0 : (0 : Int) ≤ k := by omega
      have k8 : (k : Int) ≤ 8 := by omega
      have k1 : (1 : Int) ≤ k := by omega
      obtain ⟨xk, yk, zk⟩ := idx (8 - (k : Int)) (8 - k) (by omega) (by omega)
      have k2 : 8 - (k : Int) ≤ 8 := by omega
      have k3 : ¬ (8 : Nat) = 8 - k := by omega
      have k4 : 8 - (8 - k) = k := by omega
      have hsl := slice8 w.heap.size k hk1 hk wr
      clear hg et hb
      go_wp2
      go_ret
      exact ⟨rfl, HB.out⟩
theorem fixed_i (n k : Int) (hk1 : 1 ≤ k) (hk : k ≤ 8) (w : World) :
    Calls Tryz.prog 60 #[.int .i64 n, .int .i64 k] w fun e w' => e = .returned (.string (str (Sha.fixed n k.toNat))) ∧ Below w.heap.size w w' := by
  obtain ⟨k, rfl⟩ := Int.eq_ofNat_of_zero_le (show (0 : Int) ≤ k by omega)
  rw [Int.toNat_natCast]
  exact fixed_any n k (by omega) (by omega) w
end Go.Proofs.YtkifimkcmfglmaaGreatDoor
namespace Go.Proofs.YtkifimkcmfglmaaGreatDoor
open Go.RowKit
set_option maxHeartbeats 400000 in
theorem extract_any (salt secret : ByteArray) (w : World) (h1 : salt.size ≤ 140737488355000) (h2 : secret.size ≤ 140737488355000) :
    Calls Tryz.prog 45 #[.string salt, .string secret] w fun e w' => e = .returned (.string (str (Sha.tag salt.data.toList secret.data.toList))) ∧ Below w.heap.size w w' := by
  have hj : joined [secret] = secret.data.toList := by simp [joined]
  have hl : secret.data.toList.length = secret.size := by rw [Array.length_toList]; rfl
  have HJ := Lib.hid hj
  have HL := Lib.hid hl
  clear hj hl
  go_enter Tryz.func45, Tryz.ntmps45
  go_wp2_with fail
  refine (tag_any salt (.slice (some ⟨w.heap.size, 0, none⟩) 1 1) [secret] _ (SliceOf.litS _ _ rfl _ 9 1 rfl (by decide) _ rfl) (by omega) (by simp [maxLen]) (by rw [HJ.out, HL.out]; exact h2)).mono ?_
  rintro e w1 ⟨rfl, hb⟩
  rw [HJ.out]
  go_wp2_with fail
  go_ret
  exact ⟨rfl, ((Below.refl w.heap.size w).alloc (Nat.le_refl _) _).trans (hb.mono (by simp))⟩
theorem fixed_one (j : Nat) (hj : j < 255) : Sha.fixed ((j : Int) + 1) (1 : Int).toNat = [UInt8.ofNat (j + 1)] := by
  show Sha.fixed ((j : Int) + 1) 1 = _
  simp only [Sha.fixed, List.nil_append]
  have : (((j : Int) + 1) % 256).toNat = j + 1 := by omega
  rw [this]
set_option maxRecDepth 100000 in
set_option maxHeartbeats 1000000 in
theorem expand_any (key info : ByteArray) (n : Nat) (hn1 : 1 ≤ n) (hn : n ≤ 8160) (w : World) (hk : key.size ≤ 140737488355000) (hi : info.size ≤ 1000000) :
    Calls Tryz.prog 72 #[.string key, .string info, .int .i64 n] w fun e w' => e = .returned (.tuple #[.string (str (Sha.expand key.data.toList info.data.toList n)), .int .i64 0]) ∧ Below w.heap.size w w' := by
  obtain ⟨i0, hi0, hz0, hz1, hz2⟩ := info_parts info_byte
  have n1 : (1 : Int) ≤ n := by omega
  have n2 : (n : Int) ≤ 8160 := by omega
  have hil : info.data.toList.length = info.size := by rw [Array.length_toList]; rfl
  have HIL := Lib.hid hil
  clear hil
  go_enter Tryz.func72, Tryz.ntmps72
  go_wp2_with fail
  go_loopg [8, 9, 10] 256 (fun k v t i wr => ∃ j : Nat, j + k = 256 ∧ 32 * j ≤ n + 31 ∧ i = .int .i64 ((j : Int) + 1) ∧ t = .string (str (Sha.parts key.data.toList info.data.toList j).1) ∧ Below w.heap.size w wr ∧
    wr.ownsRow w.heap.size 5 1 v (32 * j) (bytesV (Sha.parts key.data.toList info.data.toList j).2))
  case atStart => exact ⟨0, by omega, by omega, rfl, rfl, Below.refl _ _, World.ownsRow_nil _ _ _ _⟩
  case round =>
    obtain ⟨j, hjk, hjn, rfl, rfl, hb, hown⟩ := hrel
    have HO := Lib.hid hown
    have HB := Lib.hid hb
    have hsz := hb.size
    obtain ⟨av, capv, hv, hel⟩ := elems_of_owned byteV hown
    rw [Sha.parts_length] at hv
    subst hv
    have hcap : 32 * j ≤ capv := by
      rcases hel with ⟨h0, _⟩ | ⟨_, _, _, _, hlc, _⟩
      · have := congrArg List.length h0; rw [Sha.parts_length] at this; simp at this; omega
      · rw [Sha.parts_length] at hlc; exact hlc
    have HEL : Hid (ElemsAt bytesS wr av capv (Sha.parts key.data.toList info.data.toList j).2) := hel
    have HPL := Lib.hid (Sha.parts_length key.data.toList info.data.toList j)
    clear hown hb hel
    by_cases hlt : 32 * j < n
    · have hlt' : (32 * (j : Int)) < n := by omega
      obtain ⟨bt, hbt⟩ : ∃ bt, bt = UInt8.ofNat (j + 1) := ⟨_, rfl⟩
      have HBT := Lib.hid hbt
      have hst : Hid (Sha.parts key.data.toList info.data.toList (j + 1) = (Sha.tag key.data.toList ((Sha.parts key.data.toList info.data.toList j).1 ++ (info.data.toList ++ [bt])), (Sha.parts key.data.toList info.data.toList j).2 ++ Sha.tag key.data.toList ((Sha.parts key.data.toList info.data.toList j).1 ++ (info.data.toList ++ [bt])))) := by rw [hbt]; rfl
      have ht1 : (Sha.parts key.data.toList info.data.toList j).1.length ≤ 32 := by
        cases j with
        | zero => simp [Sha.parts]
        | succ j => simp [Sha.parts, Sha.tag_length]
      have HT1 := Lib.hid ht1
      clear ht1 hbt
      go_wp2_with fail
      refine (fixed_i _ _ (by decide) (by decide) _).mono ?_
      rintro e w1 ⟨rfl, hb1⟩
      rw [fixed_one j (by omega), ← HBT.out]
      have HO1 := Lib.hid (ownsRow_below HO.out hb1)
      have HB1 := Lib.hid (HB.out.trans (hb1.mono hsz))
      have hsz1 := HB1.out.size
      clear hb1 HO HB
      have hj : joined [str (Sha.parts key.data.toList info.data.toList j).1, info, str [bt]] = (Sha.parts key.data.toList info.data.toList j).1 ++ (info.data.toList ++ [bt]) := by simp [joined, str]
      have HJ := Lib.hid hj
      have hjl : Hid ((joined [str (Sha.parts key.data.toList info.data.toList j).1, info, str [bt]]).length ≤ 140737488355000) := by
        have h3 := HT1.out
        have h4 := HIL.out
        show _ ≤ _
        rw [hj]; simp only [List.length_append, List.length_singleton]; omega
      clear hj
      go_wp2_with fail
      refine (tag_any key (.slice (some ⟨w1.heap.size, 0, none⟩) 3 3) [str (Sha.parts key.data.toList info.data.toList j).1, info, str [bt]] _ (SliceOf.litS _ _ rfl _ 9 3 rfl (by decide) _ rfl) (by omega) (by simp [maxLen]) hjl.out).mono ?_
      rintro e w2 ⟨rfl, hb2⟩
      rw [HJ.out]
      obtain ⟨tg, htg⟩ : ∃ tg, tg = Sha.tag key.data.toList ((Sha.parts key.data.toList info.data.toList j).1 ++ (info.data.toList ++ [bt])) := ⟨_, rfl⟩
      have htl : (str tg).size = 32 := by rw [str_size, htg, Sha.tag_length]
      rw [← htg] at hst ⊢
      have HO2 := Lib.hid (ownsRow_below (HO1.out.alloc (.cells #[.string (str (Sha.parts key.data.toList info.data.toList j).1), .string info, .string (str [bt])] 9)) hb2)
      have HB2 := Lib.hid ((HB1.out.alloc hsz1 (.cells #[.string (str (Sha.parts key.data.toList info.data.toList j).1), .string info, .string (str [bt])] 9)).trans (hb2.mono (by simp; omega)))
      have hsz2 := HB2.out.size
      have HTL := Lib.hid htl
      clear hb2 htg htl HO1 HB1
      go_wp2_with (at_builtin; refine Lib.wpList_append_own_string _ rfl _ _ 66 9 rfl w.heap.size 5 i0 Tryz.underlying66 Tryz.underlying9 hi0 hz0 hz1 hz2 _ _ _ rfl HO2.out (str tg) rfl (by rw [HTL.out]; simp [maxLen]; omega) (by rw [HTL.out]; omega) hsz2 ?_)
      intro v3 w3 hown3 hgr3 _
      have hb3 : Below w.heap.size w w3 := HB2.out.grown hgr3 hsz2 (fun k hk => (HO2.out.lt k hk).1)
      have hown4 : w3.ownsRow w.heap.size 5 1 v3 (32 * (j + 1)) (bytesV (Sha.parts key.data.toList info.data.toList (j + 1)).2) := by
        rw [hst.out]
        have e : bytesV ((Sha.parts key.data.toList info.data.toList j).2 ++ tg) = bytesV (Sha.parts key.data.toList info.data.toList j).2 ++ Lib.strCells (str tg) := by simp only [bytesV, List.map_append]; rfl
        rw [e, show 32 * (j + 1) = 32 * j + (str tg).size by rw [HTL.out]; omega]
        exact hown3
      have HO4 := Lib.hid hown4
      have HB4 := Lib.hid hb3
      have hp1 : Hid ((Sha.parts key.data.toList info.data.toList (j + 1)).1 = tg) := by rw [hst.out]; rfl
      clear hown3 hgr3 hb3 hown4
      go_wp2_with fail
      go_roundg (gk - 1)
      case measure => omega
      case rel => exact ⟨j + 1, by omega, by omega, by go_num, by rw [hp1.out], HB4.out, HO4.out⟩
    · have hge : ¬ (32 * (j : Int)) < n := by omega
      have hcap' : (n : Int) ≤ capv := by omega
      have hexp : Hid (Sha.expand key.data.toList info.data.toList n = (Sha.parts key.data.toList info.data.toList j).2.take n) := by
        show _ = _
        have e : (n + 31) / 32 = j := by omega
        rw [Sha.expand, e]
      generalize hP : (Sha.parts key.data.toList info.data.toList j).2 = P2 at *
      have hl2 : (P2.take n).length = n := by rw [List.length_take, HPL.out]; omega
      obtain ⟨b6, off6, rfl, _, _⟩ := HEL.out.byte (i := 0) (by rw [HPL.out]; omega)
      have hcv := run_convert_bytes_back (P := Tryz.prog) wr 66 9 5 ⟨b6, off6, none⟩ capv (P2.take n) Tryz.underlying66 Tryz.underlying5 Tryz.underlying9 (fun i hi => by
        obtain ⟨b7, off7, e7, _, h7⟩ := (HEL.out.take n).byte hi
        cases e7
        have e8 : (⟨b6, off6, none⟩ : Addr).add i = ⟨b6, off6 + i, none⟩ := by cases i <;> simp [Addr.add]
        rw [e8, h7]
        rw [List.getD_eq_getElem?_getD, List.getElem?_eq_getElem hi]
        rfl)
      rw [hl2] at hcv
      obtain ⟨res, hres⟩ : ∃ res, res = P2.take n := ⟨_, rfl⟩
      rw [← hres] at hcv hexp
      clear hl2 hres hP
      go_wp2
      go_ret2
      exact ⟨by rw [hexp.out]; rfl, HB.out⟩
end Go.Proofs.YtkifimkcmfglmaaGreatDoor
namespace Go.Proofs.YtkifimkcmfglmaaGreatDoor
open Go.RowKit
set_option maxHeartbeats 400000 in
theorem of_any (name key : ByteArray) (w : World) (hk : key.size ≤ 140737488355000) (hi : name.size ≤ 1000000) :
    Calls Tryz.prog 46 #[.string name, .string key] w fun e w' => e = .returned (.string (str (Sha.expand key.data.toList name.data.toList 32))) ∧ Below w.heap.size w w' := by
  go_enter Tryz.func46, Tryz.ntmps46
  go_wp2_with fail
  refine (expand_any key name 32 (by decide) (by decide) _ hk hi).mono ?_
  rintro e w1 ⟨rfl, hb⟩
  go_wp2_with fail
  go_ret
  exact ⟨rfl, hb⟩
def keysV (secret salt : List UInt8) : Value := .agg #[.string (str (Sha.encKey secret salt)), .string (str (Sha.macKey secret salt)), .string (str (Sha.headKey secret))]
set_option maxHeartbeats 1000000 in
theorem keys_any (secret salt : ByteArray) (w : World) (h1 : secret.size ≤ 140737488355000) (h2 : salt.size ≤ 140737488355000) :
    Calls Tryz.prog 23 #[.string secret, .string salt] w fun e w' => e = .returned (keysV secret.data.toList salt.data.toList) ∧ Below w.heap.size w w' := by
  have ht : ∀ a b, (str (Sha.tag a b)).size ≤ 140737488355000 := fun a b => by rw [str_size, Sha.tag_length]; decide
  have HT := Lib.hid ht
  clear ht
  go_enter Tryz.func23, Tryz.ntmps23
  go_wp2_with fail
  refine (extract_any salt secret _ h2 h1).mono ?_
  rintro e w1 ⟨rfl, hb1⟩
  have hB1 : Below w.heap.size w w1 := ((Below.refl w.heap.size w).alloc (Nat.le_refl _) _).trans (hb1.mono (by simp))
  have hg1 : w1.heap[w.heap.size]? = _ := heap_below (heap_alloc_new _ _) hb1
  have HB1 := Lib.hid hB1
  have HG1 := Lib.hid hg1
  have hs1 := hB1.size
  clear hb1 hB1 hg1
  go_wp2_with fail
  refine (of_any (str Sha.forBytes) _ _ (HT.out _ _) (by decide)).mono ?_
  rintro e w2 ⟨rfl, hb2⟩
  have HB2 := Lib.hid (HB1.out.trans (hb2.mono hs1))
  have HG2 := Lib.hid (heap_below HG1.out hb2)
  have hs2 := HB2.out.size
  clear hb2 HB1 HG1
  go_wp2_with fail
  refine (of_any (str Sha.forTags) _ _ (HT.out _ _) (by decide)).mono ?_
  rintro e w3 ⟨rfl, hb3⟩
  have HB3 := Lib.hid (HB2.out.trans (hb3.mono hs2))
  have HG3 := Lib.hid (heap_below HG2.out hb3)
  have hs3 := HB3.out.size
  clear hb3 HB2 HG2
  go_wp2_with fail
  refine (extract_any (str []) secret _ (by decide) h1).mono ?_
  rintro e w4 ⟨rfl, hb4⟩
  have HB4 := Lib.hid (HB3.out.trans (hb4.mono hs3))
  have HG4 := Lib.hid (heap_below HG3.out hb4)
  have hs4 := HB4.out.size
  clear hb4 HB3 HG3
  go_wp2_with fail
  refine (of_any (str Sha.forHeads) _ _ (HT.out _ _) (by decide)).mono ?_
  rintro e w5 ⟨rfl, hb5⟩
  have HB5 := Lib.hid (HB4.out.trans (hb5.mono hs4))
  have hg5 := heap_below HG4.out hb5
  clear hb5 HB4 HG4
  have c0 := cell_of hg5 0
  have c1 := cell_of hg5 1
  have c2 := cell_of hg5 2
  have z0 := frozen_of hg5 0
  have z1 := frozen_of hg5 1
  have z2 := frozen_of hg5 2
  simp at c0 c1 c2
  have HG5 := Lib.hid hg5
  clear hg5
  have hb6 := ((HB5.out.setCell (p := ⟨w.heap.size, 0, none⟩) (Nat.le_refl _) (.string (str (Sha.encKey secret.data.toList salt.data.toList)))).setCell (p := ⟨w.heap.size, 1, none⟩) (Nat.le_refl _) (.string (str (Sha.macKey secret.data.toList salt.data.toList)))).setCell (p := ⟨w.heap.size, 2, none⟩) (Nat.le_refl _) (.string (str (Sha.headKey secret.data.toList)))
  have hW := heap_setCell (heap_setCell (heap_setCell HG5.out 0 (.string (str (Sha.encKey secret.data.toList salt.data.toList)))) 1 (.string (str (Sha.macKey secret.data.toList salt.data.toList)))) 2 (.string (str (Sha.headKey secret.data.toList)))
  have HW := Lib.hid hW
  have HB6 := Lib.hid hb6
  clear hW hb6
  go_wp2
  refine bodyPost_ret (v := keysV secret.data.toList salt.data.toList) ?r ?d ?fin
  case fin => exact ⟨rfl, HB6.out⟩
  case d => rfl
  case r => exact results_cell_row Tryz.results23 _ _ w.heap.size _ _ (0, 0) _ rfl HW.out Tryz.underlying60 rfl (by kernel_rfl)
end Go.Proofs.YtkifimkcmfglmaaGreatDoor
namespace Go.Proofs.YtkifimkcmfglmaaGreatDoor
open Go.RowKit
set_option maxHeartbeats 400000 in
theorem width_any (x : Int) (w : World) :
    Calls Tryz.prog 128 #[.int .i64 x] w fun e w' => e = .returned (.int .i64 (Sha.width x : Nat)) ∧ w = w' := by
  have hc : (x < 1 ∧ Sha.width x = 1) ∨ (1 ≤ x ∧ x ≤ 32 ∧ (Sha.width x : Int) = x) ∨ (32 < x ∧ Sha.width x = 32) := by unfold Sha.width; omega
  rcases hc with ⟨h1, h2⟩ | ⟨h1, h2, h3⟩ | ⟨h1, h2⟩
  · rw [h2]
    clear h2
    go_enter Tryz.func128, Tryz.ntmps128
    go_wp2
    go_ret
    exact ⟨rfl, rfl⟩
  · rw [h3]
    clear h3
    go_enter Tryz.func128, Tryz.ntmps128
    go_wp2
    all_goals
      go_ret
      exact ⟨by first | rfl | (congr 2; omega), rfl⟩
  · rw [h2]
    clear h2
    go_enter Tryz.func128, Tryz.ntmps128
    go_wp2
    all_goals
      go_ret
      exact ⟨by first | rfl | (congr 2; omega), rfl⟩
set_option maxHeartbeats 400000 in
theorem msum_any (x : Int) (v : Value) (ss : List ByteArray) (w : World) (hs : SliceOf strS w v ss) (hlen : ss.length ≤ maxLen) (hsz : (joined ss).length ≤ 140737488355200) :
    Calls Tryz.prog 83 #[.int .i64 x, v] w fun e w' => e = .returned (.string (str (Sha.msum x (joined ss)))) ∧ Below w.heap.size w w' := by
  have hl : (str (Sha.sum (joined ss))).size = 32 := by rw [str_size, Sha.sum_length]
  have hw : Sha.width x ≤ 32 := by unfold Sha.width; omega
  go_enter Tryz.func83, Tryz.ntmps83
  go_wp2_with fail
  refine (shasum_any v ss _ hs hlen hsz).mono ?_
  rintro e w1 ⟨rfl, hb⟩
  obtain ⟨sm, hsm⟩ : ∃ sm, sm = str (Sha.sum (joined ss)) := ⟨_, rfl⟩
  have hfin : str (Sha.msum x (joined ss)) = sm.extract 0 (Sha.width x) := by
    rw [hsm, str, ByteArray.extract_mk]
    rfl
  rw [show (⟨(Sha.sum (joined ss)).toArray⟩ : ByteArray) = sm from hsm.symm]
  rw [← hsm] at hl
  have hl' : (sm.size : Int) = 32 := by omega
  have HF := Lib.hid hfin
  have HL := Lib.hid hl
  have hw1 : Sha.width x ≤ sm.size := by omega
  have hw2 : ((Sha.width x : Nat) : Int) ≤ sm.size := by omega
  clear hsm hfin hl hl'
  go_wp2_with fail
  refine (width_any x _).mono ?_
  rintro e w' ⟨rfl, rfl⟩
  go_wp2_with fail
  go_ret
  exact ⟨by rw [HF.out]; rfl, hb⟩
end Go.Proofs.YtkifimkcmfglmaaGreatDoor
namespace Go.Proofs.YtkifimkcmfglmaaGreatDoor
open Go.ChangeShapes Go.WideShapes Go.ChangeAt Go.RowKit
structure Header where
  id : Int
  salt : ByteArray
  n : Int
  bytes : Int
  raw : Int
  root : ByteArray
  tag : ByteArray
def Header.cells (h : Header) : List Value := [.int .i64 h.id, .string h.salt, .int .i64 h.n, .int .i64 h.bytes, .int .i64 h.raw, .string h.root, .string h.tag]
theorem cellsInt : Tryz.prog.cellsOf 3 = 1 := by kernel_rfl
theorem cellsStr : Tryz.prog.cellsOf 9 = 1 := by kernel_rfl
theorem cellsHeader : Tryz.prog.cellsOf 23 = 7 := by kernel_rfl
end Go.Proofs.YtkifimkcmfglmaaGreatDoor
namespace Go.Proofs.YtkifimkcmfglmaaGreatDoor
open Go.RowKit
def Header.val (h : Header) : Value := .agg #[.int .i64 h.id, .string h.salt, .int .i64 h.n, .int .i64 h.bytes, .int .i64 h.raw, .string h.root, .string h.tag]
def Header.fields (h : Header) : ByteArray := ((((((ByteArray.mk #[83, 76, 71, 49]) ++ str (Sha.fixed h.id 4)) ++ h.salt) ++ str (Sha.fixed h.n 2)) ++ str (Sha.fixed h.bytes 4)) ++ str (Sha.fixed h.raw 4)) ++ h.root
set_option maxRecDepth 100000 in
set_option maxHeartbeats 1000000 in
theorem fields_any (h : Header) (hs : h.salt.size ≤ 140737488355327) (hr : h.root.size ≤ 140737488355327) (w : World) :
    Calls Tryz.prog 33 #[h.val] w fun e w' => e = .returned (.string h.fields) ∧ Below w.heap.size w w' := by
  obtain ⟨id, salt, n, bytes, raw, root, tag⟩ := h
  simp only [Header.val, Header.fields] at *
  go_enter Tryz.func33, Tryz.ntmps33
  go_wp2_with fail
  refine region_pure (by kernel_rfl) (by kernel_rfl) fun I ne f hfb hback => ?_
  have hA := heap_alloc_new w (.cells #[.int .i64 id, .string salt, .int .i64 n, .int .i64 bytes, .int .i64 raw, .string root, .string tag] 23 (0, 0))
  have d0 : ∀ i, (f i).cell? ⟨w.heap.size, 0, none⟩ = some (.int .i64 id) := fun i => by rw [(hfb i).cell (by simp), cell_of hA]; rfl
  have d1 : ∀ i, (f i).cell? ⟨w.heap.size, 1, none⟩ = some (.string salt) := fun i => by rw [(hfb i).cell (by simp), cell_of hA]; rfl
  have d2 : ∀ i, (f i).cell? ⟨w.heap.size, 2, none⟩ = some (.int .i64 n) := fun i => by rw [(hfb i).cell (by simp), cell_of hA]; rfl
  have d3 : ∀ i, (f i).cell? ⟨w.heap.size, 3, none⟩ = some (.int .i64 bytes) := fun i => by rw [(hfb i).cell (by simp), cell_of hA]; rfl
  have d4 : ∀ i, (f i).cell? ⟨w.heap.size, 4, none⟩ = some (.int .i64 raw) := fun i => by rw [(hfb i).cell (by simp), cell_of hA]; rfl
  have d5 : ∀ i, (f i).cell? ⟨w.heap.size, 5, none⟩ = some (.string root) := fun i => by rw [(hfb i).cell (by simp), cell_of hA]; rfl
  have q1 : (str (Sha.fixed id 4)).size = 4 := by rw [str_size, Sha.fixed_length]
  have q2 : (str (Sha.fixed n 2)).size = 2 := by rw [str_size, Sha.fixed_length]
  have q3 : (str (Sha.fixed bytes 4)).size = 4 := by rw [str_size, Sha.fixed_length]
  have q4 : (str (Sha.fixed raw 4)).size = 4 := by rw [str_size, Sha.fixed_length]
  have q0 : (ByteArray.mk #[83, 76, 71, 49]).size = 4 := rfl
  have p1 : ¬ (9223372036854775807 < 8 + salt.size) := by omega
  have p2 : ¬ (9223372036854775807 < 8 + salt.size + 2) := by omega
  have p3 : ¬ (9223372036854775807 < 8 + salt.size + 2 + 4) := by omega
  have p4 : ¬ (9223372036854775807 < 8 + salt.size + 2 + 4 + 4) := by omega
  have p5 : ¬ (9223372036854775807 < 8 + salt.size + 2 + 4 + 4 + root.size) := by omega
  have hfb' := Lib.hid hfb
  clear hfb hA
  repeat (quiet_step ((go_at_call 60; exact pure_of hfb'.out hback (fixed_i _ _ (by decide) (by decide) _))))
  refine wpQuiet_nil ?_
  intro i
  have hbi := hfb'.out i
  generalize f i = w3 at *
  have HB := Lib.hid (((Below.refl w.heap.size w).alloc (Nat.le_refl _) _).trans (hbi.mono (by simp)))
  clear hfb' d0 d1 d2 d3 d4 d5 hback hbi
  go_wp2
  go_ret
  exact ⟨rfl, HB.out⟩
end Go.Proofs.YtkifimkcmfglmaaGreatDoor
namespace Go.Proofs.YtkifimkcmfglmaaGreatDoor
open Go.RowKit
def sameTexts (xs ys : List ByteArray) : Bool := decide (xs = ys)
theorem text_beq (x y : ByteArray) : (x.toList == y.toList) = decide (x = y) := by
  by_cases h : x = y
  · subst h; simp
  · rw [decide_eq_false h, beq_eq_false_iff_ne]
    intro e
    exact h (by apply ByteArray.ext; apply Array.ext'; rw [← ByteArray.toList_eq, ← ByteArray.toList_eq, e])
set_option maxRecDepth 100000 in
set_option maxHeartbeats 1000000 in
theorem rsame_any (v1 v2 : Value) (xs ys : List ByteArray) (w : World) (h1 : SliceOf strS w v1 xs) (h2 : SliceOf strS w v2 ys) (hsz : xs.length ≤ 140737488355327) :
    Calls Tryz.prog 21 #[v1, v2] w fun e w' => e = .returned (.bool (sameTexts xs ys)) ∧ Below w.heap.size w w' := by
  obtain ⟨a1, c1, rfl, he1⟩ := h1
  obtain ⟨a2, c2, rfl, he2⟩ := h2
  obtain ⟨r, hr⟩ : ∃ r, r = sameTexts xs ys := ⟨_, rfl⟩
  rw [← hr]
  have HR := Lib.hid hr
  clear hr
  have H1 := Lib.hid he1
  have H2 := Lib.hid he2
  clear he1 he2
  by_cases hl : xs.length = ys.length
  case neg =>
    have e : r = false := by rw [HR.out]; exact decide_eq_false (fun h => hl (by rw [h]))
    have hl' : ((xs.length : Int) == ys.length) = false := by simp; omega
    subst e
    go_enter Tryz.func21, Tryz.ntmps21
    go_wp2_with fail
    go_ret
    exact ⟨rfl, Below.refl _ _⟩
  have hl' : (xs.length : Int) = ys.length := by omega
  go_enter Tryz.func21, Tryz.ntmps21
  go_wp2_with fail
  go_loopw [5] (fun i wr => ∃ t : Nat, t ≤ xs.length ∧ i = .int .i64 t ∧ Hid (∀ j, j < t → xs[j]? = ys[j]?) ∧ Same w wr) (fun i _ => xs.length - (intOf i).toNat)
  case atStart => exact ⟨0, Nat.zero_le _, rfl, fun j hj => absurd hj (by omega), ⟨rfl, rfl, rfl, rfl⟩⟩
  case round =>
    obtain ⟨t, ht, rfl, hj, hw⟩ := hrel
    have HW := Lib.hid hw
    clear hw
    by_cases hlt : t < xs.length
    · have hlt' : (t : Int) < xs.length := by omega
      have hlt2 : (t : Int) < ys.length := by omega
      obtain ⟨g1, o1, rfl, hg1, d1⟩ := H1.out.str hlt
      obtain ⟨g2, o2, rfl, hg2, d2⟩ := H2.out.str (show t < ys.length by omega)
      have d1' := HW.out.cell d1
      have d2' := HW.out.cell d2
      clear d1 d2 hg1 hg2
      have t0 : (0 : Int) ≤ t := by omega
      by_cases hx : xs[t] = ys[t]
      · have hb : (xs[t].toList == ys[t].toList) = true := by rw [hx]; simp
        have hj2 : Hid (∀ j, j < t + 1 → xs[j]? = ys[j]?) := by
          intro j hjt
          by_cases h : j < t
          · exact hj j h
          · have : j = t := by omega
            subst this
            rw [List.getElem?_eq_getElem hlt, List.getElem?_eq_getElem (by omega), hx]
        clear hj hx
        go_wp2
        go_quiet (fail)
        have HW2 := Lib.hid (HW.out.trans (Same.drewN wr nq))
        clear HW
        generalize wr.drewN nq = w2 at *
        go_wp2
        go_roundw
        case rel => exact ⟨t + 1, by omega, by go_num, hj2, HW2.out⟩
        case measure => simp [intOf]; omega
      · have hb : (xs[t].toList == ys[t].toList) = false := by rw [text_beq]; exact decide_eq_false hx
        have e : r = false := by
          rw [HR.out]
          exact decide_eq_false (fun h => hx (by subst h; rfl))
        subst e
        clear hj hx
        go_wp2
        go_quiet (fail)
        have HW2 := Lib.hid ((HW.out.trans (Same.drewN wr nq)).below w.heap.size)
        clear HW
        generalize wr.drewN nq = w2 at *
        go_wp2
        go_ret
        exact ⟨rfl, HW2.out⟩
    · have et : t = xs.length := by omega
      subst et
      have e : r = true := by
        rw [HR.out]
        refine decide_eq_true (List.ext_getElem? fun j => ?_)
        by_cases h : j < xs.length
        · exact hj j h
        · rw [List.getElem?_eq_none (by omega), List.getElem?_eq_none (by omega)]
      subst e
      clear hj
      go_wp2
      go_ret
      exact ⟨rfl, HW.out.below _⟩
end Go.Proofs.YtkifimkcmfglmaaGreatDoor
namespace Go.Proofs.YtkifimkcmfglmaaGreatDoor
open Go.RowKit
instance : DecidableEq Header := fun a b => by
  cases a; cases b
  simp only [Header.mk.injEq]
  exact inferInstance
set_option maxRecDepth 100000 in
theorem head_eq (h k : Header) (w : World) : (Op.equalIn 10000 23 h.val k.val).run Tryz.prog w = .ok (decide (h = k)) w := by
  obtain ⟨h0, h1, h2, h3, h4, h5, h6⟩ := h
  obtain ⟨k0, k1, k2, k3, k4, k5, k6⟩ := k
  simp only [Header.val]
  rw [run_equalIn_agg w 9999 _ _ _ (by simp [Program.fieldsOf, Tryz.underlying23]) (by kernel_rfl)]
  have pi : Tryz.prog.plainKey 3 = true := by kernel_rfl
  have ps : Tryz.prog.plainKey 9 = true := by kernel_rfl
  have pX0 (W : World) : (part 3 #[.int .i64 h0, .string h1, .int .i64 h2, .int .i64 h3, .int .i64 h4, .string h5, .string h6] 0).run Tryz.prog W = .ok (.int .i64 h0) W := run_part_plain W pi rfl
  have pX1 (W : World) : (part 9 #[.int .i64 h0, .string h1, .int .i64 h2, .int .i64 h3, .int .i64 h4, .string h5, .string h6] 1).run Tryz.prog W = .ok (.string h1) W := run_part_plain W ps rfl
  have pX2 (W : World) : (part 3 #[.int .i64 h0, .string h1, .int .i64 h2, .int .i64 h3, .int .i64 h4, .string h5, .string h6] 2).run Tryz.prog W = .ok (.int .i64 h2) W := run_part_plain W pi rfl
  have pX3 (W : World) : (part 3 #[.int .i64 h0, .string h1, .int .i64 h2, .int .i64 h3, .int .i64 h4, .string h5, .string h6] 3).run Tryz.prog W = .ok (.int .i64 h3) W := run_part_plain W pi rfl
  have pX4 (W : World) : (part 3 #[.int .i64 h0, .string h1, .int .i64 h2, .int .i64 h3, .int .i64 h4, .string h5, .string h6] 4).run Tryz.prog W = .ok (.int .i64 h4) W := run_part_plain W pi rfl
  have pX5 (W : World) : (part 9 #[.int .i64 h0, .string h1, .int .i64 h2, .int .i64 h3, .int .i64 h4, .string h5, .string h6] 5).run Tryz.prog W = .ok (.string h5) W := run_part_plain W ps rfl
  have pX6 (W : World) : (part 9 #[.int .i64 h0, .string h1, .int .i64 h2, .int .i64 h3, .int .i64 h4, .string h5, .string h6] 6).run Tryz.prog W = .ok (.string h6) W := run_part_plain W ps rfl
  generalize (#[.int .i64 h0, .string h1, .int .i64 h2, .int .i64 h3, .int .i64 h4, .string h5, .string h6] : Array Value) = X at *
  have pY0 (W : World) : (part 3 #[.int .i64 k0, .string k1, .int .i64 k2, .int .i64 k3, .int .i64 k4, .string k5, .string k6] 0).run Tryz.prog W = .ok (.int .i64 k0) W := run_part_plain W pi rfl
  have pY1 (W : World) : (part 9 #[.int .i64 k0, .string k1, .int .i64 k2, .int .i64 k3, .int .i64 k4, .string k5, .string k6] 1).run Tryz.prog W = .ok (.string k1) W := run_part_plain W ps rfl
  have pY2 (W : World) : (part 3 #[.int .i64 k0, .string k1, .int .i64 k2, .int .i64 k3, .int .i64 k4, .string k5, .string k6] 2).run Tryz.prog W = .ok (.int .i64 k2) W := run_part_plain W pi rfl
  have pY3 (W : World) : (part 3 #[.int .i64 k0, .string k1, .int .i64 k2, .int .i64 k3, .int .i64 k4, .string k5, .string k6] 3).run Tryz.prog W = .ok (.int .i64 k3) W := run_part_plain W pi rfl
  have pY4 (W : World) : (part 3 #[.int .i64 k0, .string k1, .int .i64 k2, .int .i64 k3, .int .i64 k4, .string k5, .string k6] 4).run Tryz.prog W = .ok (.int .i64 k4) W := run_part_plain W pi rfl
  have pY5 (W : World) : (part 9 #[.int .i64 k0, .string k1, .int .i64 k2, .int .i64 k3, .int .i64 k4, .string k5, .string k6] 5).run Tryz.prog W = .ok (.string k5) W := run_part_plain W ps rfl
  have pY6 (W : World) : (part 9 #[.int .i64 k0, .string k1, .int .i64 k2, .int .i64 k3, .int .i64 k4, .string k5, .string k6] 6).run Tryz.prog W = .ok (.string k6) W := run_part_plain W ps rfl
  generalize (#[.int .i64 k0, .string k1, .int .i64 k2, .int .i64 k3, .int .i64 k4, .string k5, .string k6] : Array Value) = Y at *
  have qi (x y : Int) (W : World) : (Op.equalIn 9999 3 (.int .i64 x) (.int .i64 y)).run Tryz.prog W = .ok (x == y) W := run_equalIn_int W 9998 _ _ _ x y Tryz.underlying3
  have qs (x y : ByteArray) (W : World) : (Op.equalIn 9999 9 (.string x) (.string y)).run Tryz.prog W = .ok (x.toList == y.toList) W := run_equalIn_string W 9998 _ x y Tryz.underlying9
  by_cases e0 : h0 = k0
  case neg => simp [Program.fieldsOf, Tryz.underlying23, Op.eqFields, pX0, pY0, qi, qs, text_beq, e0]
  by_cases e1 : h1 = k1
  case neg => simp [Program.fieldsOf, Tryz.underlying23, Op.eqFields, pX0, pY0, pX1, pY1, qi, qs, text_beq, e0, e1]
  by_cases e2 : h2 = k2
  case neg => simp [Program.fieldsOf, Tryz.underlying23, Op.eqFields, pX0, pY0, pX1, pY1, pX2, pY2, qi, qs, text_beq, e0, e1, e2]
  by_cases e3 : h3 = k3
  case neg => simp [Program.fieldsOf, Tryz.underlying23, Op.eqFields, pX0, pY0, pX1, pY1, pX2, pY2, pX3, pY3, qi, qs, text_beq, e0, e1, e2, e3]
  by_cases e4 : h4 = k4
  case neg => simp [Program.fieldsOf, Tryz.underlying23, Op.eqFields, pX0, pY0, pX1, pY1, pX2, pY2, pX3, pY3, pX4, pY4, qi, qs, text_beq, e0, e1, e2, e3, e4]
  by_cases e5 : h5 = k5
  case neg => simp [Program.fieldsOf, Tryz.underlying23, Op.eqFields, pX0, pY0, pX1, pY1, pX2, pY2, pX3, pY3, pX4, pY4, pX5, pY5, qi, qs, text_beq, e0, e1, e2, e3, e4, e5]
  by_cases e6 : h6 = k6 <;> simp [Program.fieldsOf, Tryz.underlying23, Op.eqFields, pX0, pY0, pX1, pY1, pX2, pY2, pX3, pY3, pX4, pY4, pX5, pY5, pX6, pY6, qi, qs, text_beq, e0, e1, e2, e3, e4, e5, e6]
end Go.Proofs.YtkifimkcmfglmaaGreatDoor
namespace Go.Proofs.YtkifimkcmfglmaaGreatDoor
open Go.RowKit
def archC (h : Header) (sl : Value) : Array Value := #[.int .i64 h.id, .string h.salt, .int .i64 h.n, .int .i64 h.bytes, .int .i64 h.raw, .string h.root, .string h.tag, sl]
def sameArch (h k : Header) (xs ys : List ByteArray) : Bool := decide (h = k ∧ xs = ys)
structure TwoAt (w W : World) (C D : Array Value) : Prop where
  below : Below w.heap.size w W
  a : W.heap[w.heap.size]? = some (.cells C 26 (0, 0))
  b : W.heap[w.heap.size + 1]? = some (.cells D 26 (0, 0))
theorem TwoAt.start (w : World) (C D : Array Value) : TwoAt w ((w.alloc (.cells C 26 (0, 0))).alloc (.cells D 26 (0, 0))) C D :=
  ⟨((Below.refl _ _).alloc (Nat.le_refl _) _).alloc (by simp) _, heap_alloc_old (heap_alloc_new _ _), heap_alloc_at (by simp) _⟩
set_option maxRecDepth 100000 in
set_option maxHeartbeats 1000000 in
theorem rsamearch_any (h k : Header) (v1 v2 : Value) (xs ys : List ByteArray) (w : World) (h1 : SliceOf strS w v1 xs) (h2 : SliceOf strS w v2 ys) (hsz : xs.length ≤ 140737488355327) :
    Calls Tryz.prog 10 #[.agg (archC h v1), .agg (archC k v2)] w fun e w' => e = .returned (.bool (sameArch h k xs ys)) ∧ Below w.heap.size w w' := by
  obtain ⟨r, hr⟩ : ∃ r, r = sameArch h k xs ys := ⟨_, rfl⟩
  rw [← hr]
  have HR := Lib.hid hr
  have HT := Lib.hid (TwoAt.start w (archC h v1) (archC k v2))
  have H1 := Lib.hid (h1.mono HT.out.below)
  have H2 := Lib.hid (h2.mono HT.out.below)
  obtain ⟨a1, c1, rfl, -⟩ := h1
  obtain ⟨a2, c2, rfl, -⟩ := h2
  have hq := fun W => head_eq h k W
  clear hr
  simp only [archC, Header.val] at HT hq ⊢
  by_cases hx : h = k
  · have e : decide (h = k) = true := decide_eq_true hx
    have er : r = sameTexts xs ys := by rw [HR.out]; unfold sameArch sameTexts; simp [hx]
    have HE := Lib.hid er
    rw [e] at hq
    clear e hx er HR
    go_enter Tryz.func10, Tryz.ntmps10
    go_wp2_with fail
    refine (rsame_any _ _ xs ys _ H1.out H2.out hsz).mono ?_
    rintro e w1 ⟨rfl, hb1⟩
    have HB := Lib.hid (HT.out.below.trans (hb1.mono HT.out.below.size))
    rw [← HE.out]
    clear hb1 hq
    cases r
    · go_wp2_with fail
      go_ret
      exact ⟨rfl, HB.out⟩
    · go_wp2_with fail
      go_ret
      exact ⟨rfl, HB.out⟩
  · have e : decide (h = k) = false := decide_eq_false hx
    have er : r = false := by rw [HR.out]; exact decide_eq_false (fun x => hx x.1)
    rw [e] at hq
    subst er
    clear e hx HR
    go_enter Tryz.func10, Tryz.ntmps10
    go_wp2_with fail
    go_ret
    exact ⟨rfl, HT.out.below⟩
end Go.Proofs.YtkifimkcmfglmaaGreatDoor
namespace Go.Proofs.YtkifimkcmfglmaaGreatDoor
open Go.RowKit
def Sha.num : List UInt8 → Nat := List.foldl (fun n c => n * 256 + c.toNat) 0
theorem Sha.num_snoc (l : List UInt8) (c : UInt8) : Sha.num (l ++ [c]) = Sha.num l * 256 + c.toNat := by simp [Sha.num, List.foldl_append]
theorem Sha.num_from (l : List UInt8) : ∀ a : Nat, l.foldl (fun n c => n * 256 + c.toNat) a + 1 ≤ (a + 1) * 256 ^ l.length := by
  induction l with
  | nil => intro a; simp
  | cons c l ih =>
    intro a
    have h1 := ih (a * 256 + c.toNat)
    have h2 := c.toNat_lt
    rw [List.foldl_cons, List.length_cons, Nat.pow_succ]
    refine Nat.le_trans h1 ?_
    rw [Nat.mul_comm (256 ^ l.length) 256, ← Nat.mul_assoc]
    exact Nat.mul_le_mul_right _ (by omega)
theorem Sha.num_lt (l : List UInt8) : Sha.num l < 256 ^ l.length := by
  have := Sha.num_from l 0
  simp at this
  exact this
set_option maxRecDepth 100000 in
set_option maxHeartbeats 1000000 in
theorem take_any (s : ByteArray) (k : Nat) (hk1 : 1 ≤ k) (hk : k ≤ 6) (hs : k ≤ s.size) (hsz : s.size ≤ 140737488355327) (w : World) :
    Calls Tryz.prog 40 #[.string s, .int .i64 k] w fun e w' => e = .returned (.tuple #[.int .i64 (Sha.num (s.data.toList.take k) : Nat), .string (s.extract k s.size), .int .i64 0]) ∧ Below w.heap.size w w' := by
  go_enter Tryz.func40, Tryz.ntmps40
  have k1 : ¬ (k : Int) < 1 := by omega
  have k2 : ¬ (8 : Int) < k := by omega
  have k3 : ¬ (s.size : Int) < k := by omega
  have hcv := fun w => run_bytes_of_string (P := Tryz.prog) w 9 66 5 (s.extract 0 k) Tryz.underlying9 Tryz.underlying66 Tryz.underlying5
  have hes : (s.extract 0 k).size = k := by simp; omega
  rw [hes] at hcv
  have k4 : (k : Int) ≤ s.size := by omega
  go_wp2_with fail
  go_loopg [7, 27] k (fun j v i wr => ∃ t : Nat, t ≤ k ∧ j = k - t ∧ i = .int .i64 t ∧ v = .int .i64 (Sha.num (s.data.toList.take t) : Nat) ∧ Below w.heap.size w wr ∧ (∀ j, j < k → wr.cell? ⟨w.heap.size, j, none⟩ = some (.int .u8 (s.data.toList.getD j 0).toNat)))
  case atStart =>
    refine ⟨0, Nat.zero_le _, rfl, rfl, rfl, ?_, fun j hj => ?_⟩
    · exact ((Same.drew w).below _).alloc (by simp) _ 
    · have hsd : j < (s.extract 0 k).data.size := by show j < (s.extract 0 k).size; omega
      have hb := bytesRow_at (s.extract 0 k) (grownCap w k 0 5) j hsd
      have e1 : (s.extract 0 k).data[j] = s.data.toList.getD j 0 := by
        have hj2 : j < s.data.size := by show j < s.size; omega
        rw [List.getD_eq_getElem?_getD, List.getElem?_eq_getElem (by rw [Array.length_toList]; exact hj2)]
        simp [ByteArray.data_extract]
      rw [e1] at hb
      refine (Same.drew _).cell ?_
      rw [cell_of (heap_alloc_new _ _)]
      exact hb
  case round =>
    obtain ⟨t, ht, rfl, rfl, rfl, hb, hc⟩ := hrel
    clear hcv
    have HB := Lib.hid hb
    by_cases hlt : t < k
    · have hlt' : (t : Int) < k := by omega
      have c := hc t hlt
      have HC := Lib.hid hc
      obtain ⟨b, hbb⟩ : ∃ b, b = s.data.toList.getD t 0 := ⟨_, rfl⟩
      have hnum : Sha.num (s.data.toList.take (t + 1)) = Sha.num (s.data.toList.take t) * 256 + b.toNat := by
        have ht' : t < s.data.toList.length := by rw [Array.length_toList]; show t < s.size; omega
        rw [List.take_succ_eq_append_getElem ht', Sha.num_snoc, hbb, List.getD_eq_getElem?_getD, List.getElem?_eq_getElem ht']; rfl
      have hN := Sha.num_lt (s.data.toList.take t)
      have hN' : Sha.num (s.data.toList.take t) < 1099511627776 := by
        refine Nat.lt_of_lt_of_le hN ?_
        have : (s.data.toList.take t).length ≤ 5 := by simp; omega
        exact Nat.le_trans (Nat.pow_le_pow_right (by decide) this) (by decide)
      rw [← hbb] at c
      have hbl := b.toNat_lt
      generalize b.toNat = B at *
      generalize Sha.num (s.data.toList.take t) = N at *
      have hor : bits .or .i64 ((N : Int) * 256) (B : Int) = ((N * 256 + B : Nat) : Int) := by
        have := i64_or_nat (N * 256) B (by omega) (by omega)
        rw [show N * 256 ||| B = N * 256 + B by
          have := Nat.shiftLeft_add_eq_or_of_lt (show B < 2 ^ 8 by omega) N
          rw [Nat.shiftLeft_eq] at this; exact this.symm] at this
        exact_mod_cast this
      have HN := Lib.hid hnum
      clear hb hc hN hnum
      go_wp2
      go_roundg (k - t - 1)
      case measure => omega
      case rel => exact ⟨t + 1, by omega, by omega, by go_num, by rw [HN.out]; simp, HB.out, HC.out⟩
    · have et : t = k := by omega
      subst et
      clear hb hc
      go_wp2
      go_quiet (fail)
      have HB2 := Lib.hid (HB.out.trans ((Same.drewN wr nq).below _))
      clear HB
      generalize wr.drewN nq = w2 at *
      go_wp2
      go_ret3
      exact ⟨rfl, HB2.out⟩
end Go.Proofs.YtkifimkcmfglmaaGreatDoor
namespace Go.Proofs.YtkifimkcmfglmaaGreatDoor
open Go.RowKit
theorem fixed_front (n : Int) : ∀ k : Nat, Sha.fixed n (k + 1) = UInt8.ofNat (n / 256 ^ k % 256).toNat :: Sha.fixed n k := by
  intro k
  induction k generalizing n with
  | zero => simp [Sha.fixed]
  | succ k ih =>
    rw [Sha.fixed, ih (n / 256), Sha.fixed]
    rw [show n / 256 / 256 ^ k = n / 256 ^ (k + 1) by rw [Int.ediv_ediv_of_nonneg (by decide), Int.pow_succ, Int.mul_comm]]
    rfl
set_option maxRecDepth 100000 in
theorem one_byte (b : UInt8) (w : World) :
    Calls Tryz.prog 147 #[.int .i64 b.toNat] w fun e w' => e = .returned (.string (str [b])) ∧ Below w.heap.size w w' := by
  have hl := b.toNat_lt
  have n0 : (0 : Int) ≤ b.toNat := by omega
  have n1 : (b.toNat : Int) < 256 := by omega
  obtain ⟨V, hV⟩ : ∃ V, V = str [b] := ⟨_, rfl⟩
  rw [← hV]
  have hcv := run_convert_bytes_back (P := Tryz.prog) (w.alloc (.cells #[.int .u8 b.toNat] 5 (0, 0))) 66 9 5 ⟨w.heap.size, 0, none⟩ 1 [b] Tryz.underlying66 Tryz.underlying5 Tryz.underlying9 (fun j hj => by
    have : j = 0 := by simp at hj; omega
    subst this
    rw [show (⟨w.heap.size, 0, none⟩ : Addr).add 0 = ⟨w.heap.size, 0, none⟩ from rfl, cell_of (heap_alloc_new _ _)]
    simp [byteV])
  rw [show (⟨[b].toArray⟩ : ByteArray) = V from hV.symm] at hcv
  simp only [List.length_singleton] at hcv
  have HV := Lib.hid hV
  clear hV
  have hB := Lib.hid ((Below.refl w.heap.size w).alloc (Nat.le_refl _) (.cells #[.int .u8 b.toNat] 5 (0, 0)))
  generalize b.toNat = m at *
  have HCV := Lib.hid hcv
  clear hcv
  go_enter Tryz.func147, Tryz.ntmps147
  go_wp2_with fail
  rw [HCV.out]
  go_wp2_with fail
  go_ret
  exact ⟨rfl, hB.out⟩
theorem one_any (n : Nat) (hn : n < 256) (w : World) :
    Calls Tryz.prog 147 #[.int .i64 n] w fun e w' => e = .returned (.string (str [UInt8.ofNat n])) ∧ Below w.heap.size w w' := by
  have := one_byte (UInt8.ofNat n) w
  rw [show (UInt8.ofNat n).toNat = n by simp; omega] at this
  exact this
theorem bits_low (n : Nat) (hn : n < 4611686018427387904) : bits .and .i64 (n : Int) 255 = ((n % 256 : Nat) : Int) := by
  have := i64_and_nat n 255 (by omega) (by omega)
  rw [show n &&& 255 = n % 256 from Nat.and_two_pow_sub_one_eq_mod n 8] at this
  exact this
set_option maxRecDepth 100000 in
set_option maxHeartbeats 1000000 in
theorem bytes_any (n k : Nat) (hn : n < 4611686018427387904) (hk : k ≤ 8) (w : World) :
    Calls Tryz.prog 109 #[.int .i64 n, .int .i64 k] w fun e w' => e = .returned (.string (str (Sha.fixed n k))) ∧ Below w.heap.size w w' := by
  go_enter Tryz.func109, Tryz.ntmps109
  go_wp2_with fail
  go_loopw [0, 5, 6] (fun u0 v i wr => ∃ t : Nat, t ≤ k ∧ i = .int .i64 t ∧ u0 = .int .i64 (n / 256 ^ t : Nat) ∧ v = .string (str (Sha.fixed n t)) ∧ Below w.heap.size w wr) (fun _ _ i _ => k - (intOf i).toNat)
  case atStart => exact ⟨0, Nat.zero_le _, rfl, by simp, rfl, Below.refl _ _⟩
  case round =>
    obtain ⟨t, ht, rfl, rfl, rfl, hb⟩ := hrel
    have HB := Lib.hid hb
    clear hb
    by_cases hlt : t < k
    · have hlt' : (t : Int) < k := by omega
      have hm := Nat.div_le_self n (256 ^ t)
      have hnext : Hid (n / 256 ^ t / 256 = n / 256 ^ (t + 1)) := Lib.hid (by rw [Nat.div_div_eq_div_mul, Nat.pow_succ])
      have hfr : Hid (str [UInt8.ofNat (n / 256 ^ t % 256)] ++ str (Sha.fixed n t) = str (Sha.fixed n (t + 1))) := Lib.hid (by
        rw [fixed_front]
        rw [show ((n : Int) / 256 ^ t % 256).toNat = n / 256 ^ t % 256 by
          have : ((n : Int) / 256 ^ t % 256) = ((n / 256 ^ t % 256 : Nat) : Int) := by push_cast; rfl
          rw [this, Int.toNat_natCast]]
        rfl)
      have q : (str (Sha.fixed n t)).size = t := by rw [str_size, Sha.fixed_length]
      generalize n / 256 ^ t = m at *
      have hbl := bits_low m (by omega)
      have hm0 : (0 : Int) ≤ m := by omega
      generalize str (Sha.fixed n t) = b at *
      go_wp2_with fail
      refine (one_any (m % 256) (by omega) _).mono ?_
      rintro e w1 ⟨rfl, hb1⟩
      have HB1 := Lib.hid (HB.out.trans (hb1.mono HB.out.size))
      have qa : (str [UInt8.ofNat (m % 256)]).size = 1 := rfl
      clear hb1 HB hbl
      generalize str [UInt8.ofNat (m % 256)] = a at *
      have qs : ¬ 9223372036854775807 < 1 + t := by omega
      go_wp2_with fail
      go_roundw
      case rel => exact ⟨t + 1, by omega, by go_num, by rw [← hnext.out]; simp, by rw [← hfr.out], HB1.out⟩
      case measure => simp [intOf]; omega
    · have et : t = k := by omega
      subst et
      go_wp2_with fail
      go_ret
      exact ⟨rfl, HB.out⟩
theorem rfixed_any (n k : Nat) (hn : n < 4611686018427387904) (hk : k ≤ 8) (w : World) :
    Calls Tryz.prog 63 #[.int .i64 n, .int .i64 k] w fun e w' => e = .returned (.string (str (Sha.fixed n k))) ∧ Below w.heap.size w w' := by
  have k0 : ¬ (k : Int) < 0 := by omega
  have k8 : ¬ (8 : Int) < k := by omega
  go_enter Tryz.func63, Tryz.ntmps63
  go_wp2_with fail
  refine (bytes_any n k hn hk _).mono ?_
  rintro e w1 ⟨rfl, hb1⟩
  have HB1 := Lib.hid hb1
  clear hb1
  go_wp2_with fail
  go_ret
  exact ⟨rfl, HB1.out⟩
theorem number_any (s : ByteArray) (hs : s.size ≤ 6) (w : World) :
    Calls Tryz.prog 64 #[.string s] w fun e w' => e = .returned (.int .i64 (Sha.num s.data.toList : Nat)) ∧ w' = w := by
  go_enter Tryz.func64, Tryz.ntmps64
  go_wp2_with fail
  go_loopw [3, 4] (fun v i wr => ∃ t : Nat, t ≤ s.size ∧ i = .int .i64 t ∧ v = .int .i64 (Sha.num (s.data.toList.take t) : Nat) ∧ wr = w) (fun _ i _ => s.size - (intOf i).toNat)
  case atStart => exact ⟨0, Nat.zero_le _, rfl, rfl, rfl⟩
  case round =>
    obtain ⟨t, ht, rfl, rfl, rfl⟩ := hrel
    by_cases hlt : t < s.size
    · have hlt' : (t : Int) < s.size := by omega
      have hN' : Sha.num (s.data.toList.take t) < 1099511627776 := by
        refine Nat.lt_of_lt_of_le (Sha.num_lt _) ?_
        have : (s.data.toList.take t).length ≤ 5 := by simp; omega
        exact Nat.le_trans (Nat.pow_le_pow_right (by decide) this) (by decide)
      have hnum : Hid (Sha.num (s.data.toList.take (t + 1)) = Sha.num (s.data.toList.take t) * 256 + s[t].toNat) := by
        have ht' : t < s.data.toList.length := by rw [Array.length_toList]; exact hlt
        rw [List.take_succ_eq_append_getElem ht', Sha.num_snoc]
        exact rfl
      have hB := s[t].toNat_lt
      generalize Sha.num (s.data.toList.take t) = N at *
      have hB' : (s[t].toNat : Int) < 256 := by omega
      have hB0 : (0 : Int) ≤ s[t].toNat := by omega
      go_wp2_with fail
      go_roundw
      case rel => exact ⟨t + 1, by omega, by go_num, by rw [hnum.out]; simp, by simp⟩
      case measure => simp [intOf]; omega
    · have et : t = s.size := by omega
      subst et
      rw [show s.data.toList.take s.size = s.data.toList from List.take_of_length_le (by rw [Array.length_toList]; exact Nat.le_refl _)]
      go_wp2_with fail
      go_ret
      exact ⟨rfl, rfl⟩
theorem num_take (s : ByteArray) (k : Nat) (h : k ≤ s.size) : (s.extract 0 k).data.toList = s.data.toList.take k := by
  rw [ByteArray.data_extract, Array.toList_extract]
  simp
set_option maxRecDepth 100000 in
theorem rtake_any (s : ByteArray) (k : Nat) (hk1 : 1 ≤ k) (hk : k ≤ 6) (hs : k ≤ s.size) (w : World) :
    Calls Tryz.prog 42 #[.string s, .int .i64 k] w fun e w' => e = .returned (.tuple #[.int .i64 (Sha.num (s.data.toList.take k) : Nat), .string (s.extract k s.size), .int .i64 0]) ∧ Below w.heap.size w w' := by
  have k1 : ¬ (k : Int) < 1 := by omega
  have k2 : ¬ (8 : Int) < k := by omega
  have k3 : ¬ (s.size : Int) < k := by omega
  have k4 : (k : Int) ≤ s.size := by omega
  have k0 : (0 : Int) ≤ k := by omega
  have hn := number_any (s.extract 0 k) (by simp; omega)
  rw [num_take s k hs] at hn
  go_enter Tryz.func42, Tryz.ntmps42
  go_wp2_with fail
  go_quiet ((go_at_call 64; exact Calls.quiet_of_same (hn _)))
  have HB := Lib.hid ((Same.drewN w nq).below w.heap.size)
  generalize w.drewN nq = w1 at *
  go_wp2_with fail
  go_ret3
  exact ⟨rfl, HB.out⟩
end Go.Proofs.YtkifimkcmfglmaaGreatDoor
namespace Go.Proofs.YtkifimkcmfglmaaGreatDoor
open Go.RowKit
def Header.check (h : Header) : Int :=
  if h.id < 1 then 1 else if 4294967295 < h.id then 1 else if h.salt.size ≠ 16 then 1 else if h.root.size ≠ 32 then 1 else if h.tag.size ≠ 32 then 1
  else if h.bytes < 1 then 1 else if 49152 < h.bytes then 1 else if h.n ≠ (h.bytes + 191) / 192 then 1 else if h.raw < 1 then 1 else if 134217728 < h.raw then 1 else 0
set_option maxRecDepth 100000 in
set_option maxHeartbeats 2000000 in
theorem check_any (h : Header) (w : World) :
    Calls Tryz.prog 32 #[h.val] w fun e w' => e = .returned (.int .i64 h.check) ∧ Below w.heap.size w w' := by
  obtain ⟨id, salt, n, bytes, raw, root, tag⟩ := h
  simp only [Header.val]
  have hB := fun o : Obj => (Below.refl w.heap.size w).alloc (Nat.le_refl _) o
  have HB := Lib.hid hB
  clear hB
  obtain ⟨r, hr⟩ : ∃ r, r = Header.check ⟨id, salt, n, bytes, raw, root, tag⟩ := ⟨_, rfl⟩
  rw [← hr]
  simp only [Header.check] at hr
  go_enter Tryz.func32, Tryz.ntmps32
  by_cases c1 : id < 1
  · rw [if_pos c1] at hr; subst hr; go_wp2; go_ret; exact ⟨rfl, HB.out _⟩
  rw [if_neg c1] at hr
  by_cases c2 : 4294967295 < id
  · rw [if_pos c2] at hr; subst hr; go_wp2; go_ret; exact ⟨rfl, HB.out _⟩
  rw [if_neg c2] at hr
  by_cases c3 : salt.size = 16
  case neg => 
    rw [if_pos c3] at hr; subst hr
    have c3' : ¬ (salt.size : Int) = 16 := by omega
    go_wp2; go_ret; exact ⟨rfl, HB.out _⟩
  rw [if_neg (by simp [c3])] at hr
  by_cases c4 : root.size = 32
  case neg => 
    rw [if_pos c4] at hr; subst hr
    have c4' : ¬ (root.size : Int) = 32 := by omega
    go_wp2; go_ret; exact ⟨rfl, HB.out _⟩
  rw [if_neg (by simp [c4])] at hr
  by_cases c5 : tag.size = 32
  case neg => 
    rw [if_pos c5] at hr; subst hr
    have c5' : ¬ (tag.size : Int) = 32 := by omega
    go_wp2; go_ret; exact ⟨rfl, HB.out _⟩
  rw [if_neg (by simp [c5])] at hr
  by_cases c6 : bytes < 1
  · rw [if_pos c6] at hr; subst hr; go_wp2; go_ret; exact ⟨rfl, HB.out _⟩
  rw [if_neg c6] at hr
  by_cases c7 : 49152 < bytes
  · rw [if_pos c7] at hr; subst hr; go_wp2; go_ret; exact ⟨rfl, HB.out _⟩
  rw [if_neg c7] at hr
  have e8 : (bytes + 191).tdiv 192 = (bytes + 191) / 192 := Int.tdiv_eq_ediv_of_nonneg (by omega)
  by_cases c8 : n = (bytes + 191) / 192
  case neg => 
    rw [if_pos c8] at hr; subst hr
    go_wp2; go_ret; exact ⟨rfl, HB.out _⟩
  rw [if_neg (by simp [c8])] at hr
  by_cases c9 : raw < 1
  · rw [if_pos c9] at hr; subst hr; go_wp2; go_ret; exact ⟨rfl, HB.out _⟩
  rw [if_neg c9] at hr
  by_cases c10 : 134217728 < raw
  · rw [if_pos c10] at hr; subst hr; go_wp2; go_ret; exact ⟨rfl, HB.out _⟩
  rw [if_neg c10] at hr
  subst hr; go_wp2; go_ret; exact ⟨rfl, HB.out _⟩
end Go.Proofs.YtkifimkcmfglmaaGreatDoor
namespace Go.Proofs.YtkifimkcmfglmaaGreatDoor
open Go.RowKit
theorem Header.check_cases (h : Header) : h.check = 1 ∨ (h.check = 0 ∧ h.salt.size = 16 ∧ h.root.size = 32 ∧ h.tag.size = 32) := by
  unfold Header.check
  repeat (split; · exact .inl rfl)
  exact .inr ⟨rfl, by omega, by omega, by omega⟩
theorem Header.fields_size (h : Header) : h.fields.size = 18 + h.salt.size + h.root.size := by
  simp only [Header.fields, ByteArray.size_append, str_size, Sha.fixed_length]
  have : (ByteArray.mk #[83, 76, 71, 49]).size = 4 := rfl
  omega
end Go.Proofs.YtkifimkcmfglmaaGreatDoor
namespace Go.Proofs.YtkifimkcmfglmaaGreatDoor
open Go.RowKit
set_option maxRecDepth 100000 in
set_option maxHeartbeats 1000000 in
theorem hnum_any (g : Nat) (s : ByteArray) (T : TypeId) (k : Nat) (hk1 : 1 ≤ k) (hk : k ≤ 6) (hs : k ≤ s.size) (hsz : s.size ≤ 140737488355327) (w : World) (hg : w.heap[g]? = some (.cells #[.string s] T (0, 0))) :
    Calls Tryz.prog 39 #[.int .i64 k, .pointer (some ⟨g, 0, none⟩)] w fun e w' => e = .returned (.int .i64 (Sha.num (s.data.toList.take k) : Nat)) ∧ ∃ w1, Below w.heap.size w w1 ∧ w' = w1.setCell ⟨g, 0, none⟩ (.string (s.extract k s.size)) := by
  have c := cell_of hg 0
  simp at c
  have HG := Lib.hid hg
  clear hg
  go_enter Tryz.func39, Tryz.ntmps39
  go_wp2_with fail
  refine (take_any s k hk1 hk hs hsz _).mono ?_
  rintro e w1 ⟨rfl, hb1⟩
  have hg1 := heap_below HG.out hb1
  have c1 := cell_of hg1 0
  have z1 := frozen_of hg1 0
  simp at c1
  have HB := Lib.hid hb1
  clear hg1 hb1 HG c
  go_wp2
  go_ret
  exact ⟨rfl, w1, HB.out, rfl⟩
set_option maxRecDepth 100000 in
set_option maxHeartbeats 1000000 in
theorem htext_any (g : Nat) (s : ByteArray) (T : TypeId) (k : Nat) (hs : k ≤ s.size) (hsz : s.size ≤ 140737488355327) (w : World) (hg : w.heap[g]? = some (.cells #[.string s] T (0, 0))) :
    Calls Tryz.prog 41 #[.int .i64 k, .pointer (some ⟨g, 0, none⟩)] w fun e w' => e = .returned (.string (s.extract 0 k)) ∧ w' = w.setCell ⟨g, 0, none⟩ (.string (s.extract k s.size)) := by
  have c := cell_of hg 0
  have z := frozen_of hg 0
  simp at c
  have HG := Lib.hid hg
  clear hg
  have k4 : (k : Int) ≤ s.size := by omega
  have k0 : (0 : Int) ≤ k := by omega
  go_enter Tryz.func41, Tryz.ntmps41
  go_wp2_with fail
  go_ret
  exact ⟨rfl, rfl⟩
def zeroH : Array Value := #[.int .i64 0, .string ⟨#[]⟩, .int .i64 0, .int .i64 0, .int .i64 0, .string ⟨#[]⟩, .string ⟨#[]⟩]
structure TakeAt (w W : World) (cur : ByteArray) (C : Array Value) : Prop where
  below : Below w.heap.size w W
  cur : W.heap[w.heap.size]? = some (.cells #[.string cur] 9 (0, 0))
  z : W.heap[w.heap.size + 1]? = some (.cells zeroH 23 (0, 0))
  h : W.heap[w.heap.size + 1 + 1]? = some (.cells C 23 (0, 0))
theorem TakeAt.after {w W w1 : World} {cur : ByteArray} {C : Array Value} (t : TakeAt w W cur C) (hb : Below W.heap.size W w1) : TakeAt w w1 cur C :=
  ⟨t.below.trans (hb.mono t.below.size), heap_below t.cur hb, heap_below t.z hb, heap_below t.h hb⟩
theorem TakeAt.put {w W : World} {cur : ByteArray} {C : Array Value} (t : TakeAt w W cur C) (c : ByteArray) : TakeAt w (W.setCell ⟨w.heap.size, 0, none⟩ (.string c)) c C :=
  ⟨t.below.setCell (Nat.le_refl _) _, heap_setCell t.cur _ _, by rw [heap_setCell_ne (by simp)]; exact t.z, by rw [heap_setCell_ne (by simp; omega)]; exact t.h⟩
theorem TakeAt.store {w W : World} {cur : ByteArray} {C : Array Value} (t : TakeAt w W cur C) (k : Nat) (v : Value) : TakeAt w (W.setCell ⟨w.heap.size + 1 + 1, k, none⟩ v) cur (C.setIfInBounds k v) :=
  ⟨t.below.setCell (by simp; omega) _, by rw [heap_setCell_ne (by simp; omega)]; exact t.cur, by rw [heap_setCell_ne (by simp)]; exact t.z, heap_setCell t.h _ _⟩
theorem cut_size (s : ByteArray) (hs : s.size = 98) (a : Nat) : (s.extract a 98).size = 98 - a := by simp; omega
theorem cut_cut (s : ByteArray) (hs : s.size = 98) (a k : Nat) (h : a + k ≤ 98) : (s.extract a 98).extract k (s.extract a 98).size = s.extract (a + k) 98 := by
  rw [cut_size s hs, ByteArray.extract_extract]; congr 1; omega
theorem cut_head (s : ByteArray) (hs : s.size = 98) (a k : Nat) (h : a + k ≤ 98) : (s.extract a 98).extract 0 k = s.extract a (a + k) := by
  rw [ByteArray.extract_extract]; congr 1; omega
def numAt (s : ByteArray) (a k : Nat) : Nat := Sha.num ((s.extract a 98).data.toList.take k)
theorem hnum_at (w W : World) (s : ByteArray) (hs : s.size = 98) (a k : Nat) (hk1 : 1 ≤ k) (hk : k ≤ 6) (ha : a + k ≤ 98) (C : Array Value) (t : TakeAt w W (s.extract a 98) C) :
    Calls Tryz.prog 39 #[.int .i64 k, .pointer (some ⟨w.heap.size, 0, none⟩)] W fun e w' => e = .returned (.int .i64 (numAt s a k : Nat)) ∧ TakeAt w w' (s.extract (a + k) 98) C := by
  refine (hnum_any w.heap.size (s.extract a 98) _ k hk1 hk (by rw [cut_size s hs]; omega) (by rw [cut_size s hs]; omega) W t.cur).mono ?_
  rintro e w' ⟨rfl, w1, hb, rfl⟩
  rw [cut_cut s hs a k ha]
  exact ⟨rfl, (t.after hb).put _⟩
theorem htext_at (w W : World) (s : ByteArray) (hs : s.size = 98) (a k : Nat) (ha : a + k ≤ 98) (C : Array Value) (t : TakeAt w W (s.extract a 98) C) :
    Calls Tryz.prog 41 #[.int .i64 k, .pointer (some ⟨w.heap.size, 0, none⟩)] W fun e w' => e = .returned (.string (s.extract a (a + k))) ∧ TakeAt w w' (s.extract (a + k) 98) C := by
  refine (htext_any w.heap.size (s.extract a 98) _ k (by rw [cut_size s hs]; omega) (by rw [cut_size s hs]; omega) W t.cur).mono ?_
  rintro e w' ⟨rfl, rfl⟩
  rw [cut_cut s hs a k ha, cut_head s hs a k ha]
  exact ⟨rfl, t.put _⟩
theorem results_cell_tmp {P : Program} {fn : Func} {p t2 : Tmp} {ty : TypeId} (h : fn.results = #[.cell p ty, .tmp t2]) (tmps : Array Value) (w : World) (g : Nat) (t : TypeId) (cs : Array Value) (fr : Nat × Nat) (d : TypeDesc)
    (hp : tmps.getD p undef = .pointer (some ⟨g, 0, none⟩)) (hg : w.heap[g]? = some (.cells cs t fr))
    (hu : P.underlying ty = some d) (hd : (match d with | .struct _ | .array _ _ => true | _ => false) = true) (hi : (P.info? ty).map (·.size) = some cs.size) :
    (results fn tmps).run P w = .ok (.tuple #[.agg cs, tmps.getD t2 undef]) w := by
  have hp' : tmps[p]?.getD undef = .pointer (some ⟨g, 0, none⟩) := by simpa using hp
  simp [results, h, hp', asAddr, run_loadVar_row w g t ty cs fr d hg hu hd hi]
theorem TakeAt.row {w W : World} {cur : ByteArray} {C : Array Value} (t : TakeAt w W cur C) (v0 v1 v2 v3 v4 v5 v6 : Value) :
    Below w.heap.size w (((((((W.setCell ⟨w.heap.size + 1, 0, none⟩ v0).setCell ⟨w.heap.size + 1, 1, none⟩ v1).setCell ⟨w.heap.size + 1, 2, none⟩ v2).setCell ⟨w.heap.size + 1, 3, none⟩ v3).setCell ⟨w.heap.size + 1, 4, none⟩ v4).setCell ⟨w.heap.size + 1, 5, none⟩ v5).setCell ⟨w.heap.size + 1, 6, none⟩ v6) ∧
    (((((((W.setCell ⟨w.heap.size + 1, 0, none⟩ v0).setCell ⟨w.heap.size + 1, 1, none⟩ v1).setCell ⟨w.heap.size + 1, 2, none⟩ v2).setCell ⟨w.heap.size + 1, 3, none⟩ v3).setCell ⟨w.heap.size + 1, 4, none⟩ v4).setCell ⟨w.heap.size + 1, 5, none⟩ v5).setCell ⟨w.heap.size + 1, 6, none⟩ v6).heap[w.heap.size + 1]? = some (.cells #[v0, v1, v2, v3, v4, v5, v6] 23 (0, 0)) := by
  have hl : w.heap.size ≤ w.heap.size + 1 := Nat.le_succ _
  exact ⟨((((((t.below.setCell hl _).setCell hl _).setCell hl _).setCell hl _).setCell hl _).setCell hl _).setCell hl _,
    heap_setCell (heap_setCell (heap_setCell (heap_setCell (heap_setCell (heap_setCell (heap_setCell t.z 0 v0) 1 v1) 2 v2) 3 v3) 4 v4) 5 v5) 6 v6⟩
def headOf (s : ByteArray) : Header := ⟨numAt s 4 4, s.extract 8 24, numAt s 24 2, numAt s 26 4, numAt s 30 4, s.extract 34 66, s.extract 66 98⟩
def htakeV (s : ByteArray) : Value := if (headOf s).check = 1 then .tuple #[.agg zeroH, .int .i64 2] else .tuple #[(headOf s).val, .int .i64 0]
set_option maxRecDepth 100000 in
set_option maxHeartbeats 4000000 in
theorem htake_in (s : ByteArray) (hs : s.size = 98) (hm : s.extract 0 4 = ⟨#[83, 76, 71, 49]⟩) (w : World) :
    Calls Tryz.prog 19 #[.string s] w fun e w' => e = .returned (htakeV s) ∧ Below w.heap.size w w' := by
  have hs' : (s.size : Int) = 98 := by omega
  have hv : htakeV s = if (headOf s).check = 1 then .tuple #[.agg zeroH, .int .i64 2] else .tuple #[(headOf s).val, .int .i64 0] := rfl
  generalize htakeV s = V at *
  have HV0 := Lib.hid hv
  clear hv
  have num := fun W => hnum_at w W s hs
  have text := fun W => htext_at w W s hs
  have NUM := Lib.hid num
  have TEXT := Lib.hid text
  clear num text
  go_enter Tryz.func19, Tryz.ntmps19
  go_wp2_with fail
  refine (NUM.out _ 4 4 (by decide) (by decide) (by decide) zeroH ?_).mono ?_
  · refine ⟨(((Below.refl w.heap.size w).alloc (Nat.le_refl _) _).alloc (by simp) _).alloc (by simp; omega) _, ?_, ?_, ?_⟩
    · exact heap_alloc_old (heap_alloc_old (heap_alloc_new _ _))
    · exact heap_alloc_old (heap_alloc_at (by simp) _)
    · exact heap_alloc_at (by simp) _
  rintro e W1 ⟨rfl, t1⟩
  have c1 := frozen_of t1.h 0
  have d1 := cell_of t1.h 0
  simp [zeroH] at d1
  have T1 := Lib.hid t1
  clear t1
  go_wp2_with fail
  refine (TEXT.out _ 8 16 (by decide) _ (T1.out.store 0 _)).mono ?_
  rintro e W2 ⟨rfl, t2⟩
  have z2 := frozen_of t2.h 1
  have d2 := cell_of t2.h 1
  simp [zeroH] at d2
  have T2 := Lib.hid t2
  clear t2 T1 c1 d1
  go_wp2_with fail
  refine (NUM.out _ 24 2 (by decide) (by decide) (by decide) _ (T2.out.store 1 _)).mono ?_
  rintro e W3 ⟨rfl, t3⟩
  have z3 := frozen_of t3.h 2
  have d3 := cell_of t3.h 2
  simp [zeroH] at d3
  have T3 := Lib.hid t3
  clear t3 T2 z2 d2
  go_wp2_with fail
  refine (NUM.out _ 26 4 (by decide) (by decide) (by decide) _ (T3.out.store 2 _)).mono ?_
  rintro e W4 ⟨rfl, t4⟩
  have z4 := frozen_of t4.h 3
  have d4 := cell_of t4.h 3
  simp [zeroH] at d4
  have T4 := Lib.hid t4
  clear t4 T3 z3 d3
  go_wp2_with fail
  refine (NUM.out _ 30 4 (by decide) (by decide) (by decide) _ (T4.out.store 3 _)).mono ?_
  rintro e W5 ⟨rfl, t5⟩
  have z5 := frozen_of t5.h 4
  have d5 := cell_of t5.h 4
  simp [zeroH] at d5
  have T5 := Lib.hid t5
  clear t5 T4 z4 d4
  go_wp2_with fail
  refine (TEXT.out _ 34 32 (by decide) _ (T5.out.store 4 _)).mono ?_
  rintro e W6 ⟨rfl, t6⟩
  have z6 := frozen_of t6.h 5
  have d6 := cell_of t6.h 5
  simp [zeroH] at d6
  have T6 := Lib.hid t6
  clear t6 T5 z5 d5
  go_wp2_with fail
  refine (TEXT.out _ 66 32 (by decide) _ (T6.out.store 5 _)).mono ?_
  rintro e W7 ⟨rfl, t7⟩
  have z7 := frozen_of t7.h 6
  have y0 := cell_of t7.h 0
  have y1 := cell_of t7.h 1
  have y2 := cell_of t7.h 2
  have y3 := cell_of t7.h 3
  have y4 := cell_of t7.h 4
  have y5 := cell_of t7.h 5
  have y6 := cell_of t7.h 6
  simp [zeroH] at y0 y1 y2 y3 y4 y5 y6
  have T7 := Lib.hid t7
  clear t7 T6 z6 d6
  go_wp2_with fail
  have T8 := Lib.hid (T7.out.store 6 (.string (s.extract 66 98)))
  clear T7
  refine (check_any (headOf s) _).mono ?_
  rintro e W8 ⟨rfl, hb8⟩
  have T9 := Lib.hid (T8.out.after hb8)
  have hg1 := T9.out.z
  have q0 := cell_of hg1 0
  have q1 := cell_of hg1 1
  have q2 := cell_of hg1 2
  have q3 := cell_of hg1 3
  have q4 := cell_of hg1 4
  have q5 := cell_of hg1 5
  have q6 := cell_of hg1 6
  have f0 := frozen_of hg1 0
  have f1 := frozen_of hg1 1
  have f2 := frozen_of hg1 2
  have f3 := frozen_of hg1 3
  have f4 := frozen_of hg1 4
  have f5 := frozen_of hg1 5
  have f6 := frozen_of hg1 6
  have hg2 := T9.out.h
  have x0 := cell_of hg2 0
  have x1 := cell_of hg2 1
  have x2 := cell_of hg2 2
  have x3 := cell_of hg2 3
  have x4 := cell_of hg2 4
  have x5 := cell_of hg2 5
  have x6 := cell_of hg2 6
  simp [zeroH] at q0 q1 q2 q3 q4 q5 q6 x0 x1 x2 x3 x4 x5 x6
  clear hb8 T8 y0 y1 y2 y3 y4 y5 y6 z7 hg1 hg2
  have hv := HV0.out
  clear HV0
  have hcc := (headOf s).check_cases
  generalize hc0 : (headOf s).check = c0 at *
  rcases hcc with rfl | ⟨rfl, -⟩
  · rw [if_pos rfl] at hv
    have HV := Lib.hid hv
    clear hv hc0
    go_wp2_with fail
    have R := T9.out.row (.int .i64 0) (.string ⟨#[]⟩) (.int .i64 0) (.int .i64 0) (.int .i64 0) (.string ⟨#[]⟩) (.string ⟨#[]⟩)
    refine bodyPost_ret (v := .tuple #[.agg zeroH, .int .i64 2]) ?r ?d ?fin
    case fin => exact ⟨by rw [HV.out], R.1⟩
    case d => rfl
    case r => exact results_cell_tmp Tryz.results19 _ _ (w.heap.size + 1) _ _ (0, 0) _ rfl R.2 Tryz.underlying23 rfl (by kernel_rfl)
  · rw [if_neg (by decide)] at hv
    have HV := Lib.hid hv
    clear hv hc0
    go_wp2_with fail
    have R := T9.out.row (.int .i64 (numAt s 4 4)) (.string (s.extract 8 24)) (.int .i64 (numAt s 24 2)) (.int .i64 (numAt s 26 4)) (.int .i64 (numAt s 30 4)) (.string (s.extract 34 66)) (.string (s.extract 66 98))
    refine bodyPost_ret (v := .tuple #[(headOf s).val, .int .i64 0]) ?r ?d ?fin
    case fin => exact ⟨by rw [HV.out], R.1⟩
    case d => rfl
    case r => exact results_cell_tmp Tryz.results19 _ _ (w.heap.size + 1) _ _ (0, 0) _ rfl R.2 Tryz.underlying23 rfl (by kernel_rfl)
end Go.Proofs.YtkifimkcmfglmaaGreatDoor
namespace Go.Proofs.YtkifimkcmfglmaaGreatDoor
open Go.RowKit
set_option maxRecDepth 100000 in
set_option maxHeartbeats 2000000 in
theorem htake_short (s : ByteArray) (hs : ¬ s.size = 98) (w : World) :
    Calls Tryz.prog 19 #[.string s] w fun e w' => e = .returned (.tuple #[.agg zeroH, .int .i64 2]) ∧ Below w.heap.size w w' := by
  have hs' : ¬ (s.size : Int) = 98 := by omega
  go_enter Tryz.func19, Tryz.ntmps19
  go_wp2_with fail
  refine bodyPost_ret (v := .tuple #[.agg zeroH, .int .i64 2]) ?r ?d ?fin
  case fin => exact ⟨rfl, ((Below.refl w.heap.size w).alloc (Nat.le_refl _) _).alloc (by simp) _⟩
  case d => rfl
  case r => exact results_cell_tmp Tryz.results19 _ _ (w.heap.size + 1) _ _ (0, 0) _ rfl (heap_alloc_at (by simp) _) Tryz.underlying23 rfl (by kernel_rfl)
set_option maxRecDepth 100000 in
set_option maxHeartbeats 2000000 in
theorem htake_mark (s : ByteArray) (hs : s.size = 98) (hm : ¬ s.extract 0 4 = ⟨#[83, 76, 71, 49]⟩) (w : World) :
    Calls Tryz.prog 19 #[.string s] w fun e w' => e = .returned (.tuple #[.agg zeroH, .int .i64 2]) ∧ Below w.heap.size w w' := by
  have hs' : (s.size : Int) = 98 := by omega
  have hml : ((s.extract 0 4).toList == [83, 76, 71, 49]) = false := by
    rw [beq_eq_false_iff_ne]
    intro h
    refine hm (ByteArray.ext (Array.ext' ?_))
    rw [← ByteArray.toList_eq, h]
  go_enter Tryz.func19, Tryz.ntmps19
  go_wp2_with fail
  refine bodyPost_ret (v := .tuple #[.agg zeroH, .int .i64 2]) ?r ?d ?fin
  case fin => exact ⟨rfl, ((Below.refl w.heap.size w).alloc (Nat.le_refl _) _).alloc (by simp) _⟩
  case d => rfl
  case r => exact results_cell_tmp Tryz.results19 _ _ (w.heap.size + 1) _ _ (0, 0) _ rfl (heap_alloc_at (by simp) _) Tryz.underlying23 rfl (by kernel_rfl)
def htakeAny (s : ByteArray) : Value :=
  if s.size = 98 then if s.extract 0 4 = ⟨#[83, 76, 71, 49]⟩ then htakeV s else .tuple #[.agg zeroH, .int .i64 2] else .tuple #[.agg zeroH, .int .i64 2]
theorem htake_any (s : ByteArray) (w : World) :
    Calls Tryz.prog 19 #[.string s] w fun e w' => e = .returned (htakeAny s) ∧ Below w.heap.size w w' := by
  unfold htakeAny
  by_cases h1 : s.size = 98
  · rw [if_pos h1]
    by_cases h2 : s.extract 0 4 = ⟨#[83, 76, 71, 49]⟩
    · rw [if_pos h2]; exact htake_in s h1 h2 w
    · rw [if_neg h2]; exact htake_mark s h1 h2 w
  · rw [if_neg h1]; exact htake_short s h1 w
end Go.Proofs.YtkifimkcmfglmaaGreatDoor
