/-
  The walks of enc: numbers of so many bytes.
  The walks of kdf.
  The walks of kdf: the keys of an archive.
  The walk of enc.Take.
  The walks of merkle: widths, sums, cuts.
  The walks of merkle: how many leaves stand on the left.
-/
import Derived.Test.YtfdijpacbhomjaaGreatDoorMsnd02
set_option linter.all false
namespace Go.Proofs.YtfdijpacbhomjaaGreatDoor
open Go.RowKit
theorem fixed_cons (n : Int) : ∀ k, Sha.fixed n (k + 1) = UInt8.ofNat (n / 256 ^ k % 256).toNat :: Sha.fixed n k := by
  intro k
  induction k generalizing n with
  | zero => simp [Sha.fixed]
  | succ k ih =>
    rw [Sha.fixed, ih (n / 256), Sha.fixed]
    rw [Int.ediv_ediv_of_nonneg (by decide), ← Int.pow_succ', List.cons_append]
theorem fixed_drop (n : Int) (k : Nat) : ∀ j, (Sha.fixed n (k + j)).drop j = Sha.fixed n k
  | 0 => rfl
  | j + 1 => by rw [← Nat.add_assoc, fixed_cons, List.drop_succ_cons]; exact fixed_drop n k j
theorem fixed_byte (n : Int) (k : Nat) : byteV (UInt8.ofNat (n / 256 ^ k % 256).toNat) = .int .u8 (n / 256 ^ k % 256) := by
  unfold byteV
  congr 1
  rw [UInt8.toNat_ofNat']
  have : 0 ≤ n / 256 ^ k % 256 := Int.emod_nonneg _ (by decide)
  have : n / 256 ^ k % 256 < 256 := Int.emod_lt_of_pos _ (by decide)
  omega
theorem fixed_step (n : Int) (t : Nat) (ht : t < 8) :
    (List.replicate (8 - t) (Value.int .u8 0) ++ bytesV (Sha.fixed n t)).toArray.setIfInBounds (7 - t) (.int .u8 (n / 2 ^ (8 * t) % 256)) = (List.replicate (8 - (t + 1)) (Value.int .u8 0) ++ bytesV (Sha.fixed n (t + 1))).toArray := by
  have e1 : n / 2 ^ (8 * t) % 256 = n / 256 ^ t % 256 := by rw [Int.pow_mul]; rfl
  have e2 : bytesV (Sha.fixed n (t + 1)) = Value.int .u8 (n / 256 ^ t % 256) :: bytesV (Sha.fixed n t) := by
    rw [fixed_cons, ← fixed_byte]; rfl
  rw [e1, e2]
  apply Array.ext'
  rw [Array.toList_setIfInBounds]
  show List.set (List.replicate (8 - t) (Value.int .u8 0) ++ bytesV (Sha.fixed n t)) (7 - t) _ = _
  rw [show 8 - t = (8 - (t + 1)) + 1 by omega, List.replicate_succ', show 7 - t = 8 - (t + 1) by omega, List.append_assoc]
  rw [List.set_append_right _ _ (by simp)]
  simp
set_option maxRecDepth 100000 in
theorem slice8 (g k : Nat) (hk1 : 1 ≤ k) (hk : k ≤ 8) (w : World) :
    (Instr.sliceAt 361 (.pointer (some ⟨g, 0, none⟩)) (some (.int .i64 (8 - (k : Int)))) none none).run Tryz.prog w = .ok (.slice (some ⟨g, 8 - k, none⟩) k k) w := by
  have hl : Tryz.prog.arrayLen 361 = 8 := by kernel_rfl
  have he : Tryz.prog.elem 361 = 5 := by kernel_rfl
  have hs : (sizeOf 5).run Tryz.prog w = .ok 1 w := by
    obtain ⟨i0, hi, _, hz1, _⟩ := info_parts info_byte
    simp [sizeOf, typeInfo, hi, hz1]
  rw [run_sliceAt_array_l w _ _ (by rw [hl, he]; exact Tryz.underlying361) _ _ (by omega) (by rw [hl]; omega), he, hs, hl]
  have e : (8 - (k : Int)).toNat = 8 - k := by omega
  simp only [Result.andThen_ok, slicedAt, e]
  rw [if_neg (by omega), show 8 - (8 - k) = k by omega]
  congr 2
  simp only [Addr.add]
  split
  · rename_i h
    have : 8 - k = 0 := by omega
    simp [this]
  · simp
set_option maxRecDepth 100000 in
set_option maxHeartbeats 1000000 in
theorem fixed_any (n : Int) (k : Nat) (hk1 : 1 ≤ k) (hk : k ≤ 8) (w : World) :
    Calls Tryz.prog 194 #[.int .i64 n, .int .i64 k] w fun e w' => e = .returned (.string (str (Sha.fixed n k))) ∧ Below w.heap.size w w' := by
  go_enter Tryz.func194, Tryz.ntmps194
  go_wp2_with fail
  go_loopw [7] (fun i wr => ∃ t : Nat, t ≤ 8 ∧ i = .int .i64 t ∧ Below w.heap.size w wr ∧ wr.heap[w.heap.size]? = some (.cells (List.replicate (8 - t) (Value.int .u8 0) ++ bytesV (Sha.fixed n t)).toArray 361 (0, 0))) (fun i _ => 8 - (intOf i).toNat)
  case atStart => exact ⟨0, by omega, rfl, (Below.refl _ _).alloc (Nat.le_refl _) _, heap_alloc_new _ _⟩
  case round =>
    obtain ⟨t, ht, rfl, hb, hg⟩ := hrel
    have HB := Lib.hid hb
    have HG := Lib.hid hg
    by_cases hlt : t < 8
    · have c := cell_of hg (7 - t)
      have z := frozen_of hg (7 - t)
      have e0 : (List.replicate (8 - t) (Value.int .u8 0) ++ bytesV (Sha.fixed n t)).toArray[7 - t]? = some (.int .u8 0) := by
        rw [List.getElem?_toArray, List.getElem?_append_left (by simp; omega), List.getElem?_replicate, if_pos (by omega)]
      rw [e0] at c
      obtain ⟨x7, y7, z7⟩ := idx (7 - (t : Int)) (7 - t) (by omega) (by omega)
      clear hb hg e0
      have l1 : 7 - (t : Int) < 8 := by omega
      have l2 : (t : Int) ≤ 7 := by omega
      go_wp2
      go_roundw
      case rel => exact ⟨t + 1, by omega, by go_num, HB.out.setCell (Nat.le_refl _) _, by rw [heap_setCell HG.out, fixed_step n t hlt]⟩
      case measure => simp [intOf]; omega
    · have et : t = 8 := by omega
      rw [et, Nat.sub_self, List.replicate_zero, List.nil_append] at hg
      have hcv := run_convert_bytes_back (P := Tryz.prog) wr 187 9 5 ⟨w.heap.size, 8 - k, none⟩ k (Sha.fixed n k) Tryz.underlying187 Tryz.underlying5 Tryz.underlying9 (fun j hj => by
        rw [Sha.fixed_length] at hj
        have e8 : (⟨w.heap.size, 8 - k, none⟩ : Addr).add j = ⟨w.heap.size, 8 - k + j, none⟩ := by cases j <;> simp [Addr.add]
        have e9 := fixed_drop n k (8 - k)
        rw [show k + (8 - k) = 8 by omega] at e9
        rw [e8, cell_of hg, List.getElem?_toArray]
        have e10 : (bytesV (Sha.fixed n 8))[8 - k + j]? = (bytesV (Sha.fixed n k))[j]? := by
          rw [← e9]; simp [bytesV]
        rw [e10]
        simp [bytesV, byteV, Sha.fixed_length, hj])
      rw [Sha.fixed_length] at hcv
      have k0 : (0 : Int) ≤ k := by omega
      have k8 : (k : Int) ≤ 8 := by omega
      have k1 : (1 : Int) ≤ k := by omega
      obtain ⟨xk, yk, zk⟩ := idx (8 - (k : Int)) (8 - k) (by omega) (by omega)
      have k2 : 8 - (k : Int) ≤ 8 := by omega
      have k3 : ¬ (8 : Nat) = 8 - k := by omega
      have k4 : 8 - (8 - k) = k := by omega
      have hsl := slice8 w.heap.size k hk1 hk wr
      clear hg et hb
      go_wp2
      go_ret
      exact ⟨rfl, HB.out⟩
theorem fixed_i (n k : Int) (hk1 : 1 ≤ k) (hk : k ≤ 8) (w : World) :
    Calls Tryz.prog 194 #[.int .i64 n, .int .i64 k] w fun e w' => e = .returned (.string (str (Sha.fixed n k.toNat))) ∧ Below w.heap.size w w' := by
  obtain ⟨k, rfl⟩ := Int.eq_ofNat_of_zero_le (show (0 : Int) ≤ k by omega)
  rw [Int.toNat_natCast]
  exact fixed_any n k (by omega) (by omega) w
end Go.Proofs.YtfdijpacbhomjaaGreatDoor
namespace Go.Proofs.YtfdijpacbhomjaaGreatDoor
open Go.RowKit
set_option maxHeartbeats 400000 in
theorem extract_any (salt secret : ByteArray) (w : World) (h1 : salt.size ≤ 140737488355000) (h2 : secret.size ≤ 140737488355000) :
    Calls Tryz.prog 141 #[.string salt, .string secret] w fun e w' => e = .returned (.string (str (Sha.tag salt.data.toList secret.data.toList))) ∧ Below w.heap.size w w' := by
  have hj : joined [secret] = secret.data.toList := by simp [joined]
  have hl : secret.data.toList.length = secret.size := by rw [Array.length_toList]; rfl
  have HJ := Lib.hid hj
  have HL := Lib.hid hl
  clear hj hl
  go_enter Tryz.func141, Tryz.ntmps141
  go_wp2_with fail
  refine (tag_any salt (.slice (some ⟨w.heap.size, 0, none⟩) 1 1) [secret] _ (SliceOf.litS _ _ rfl _ 9 1 rfl (by decide) _ rfl) (by omega) (by simp [maxLen]) (by rw [HJ.out, HL.out]; exact h2)).mono ?_
  rintro e w1 ⟨rfl, hb⟩
  rw [HJ.out]
  go_wp2_with fail
  go_ret
  exact ⟨rfl, ((Below.refl w.heap.size w).alloc (Nat.le_refl _) _).trans (hb.mono (by simp))⟩
theorem fixed_one (j : Nat) (hj : j < 255) : Sha.fixed ((j : Int) + 1) (1 : Int).toNat = [UInt8.ofNat (j + 1)] := by
  show Sha.fixed ((j : Int) + 1) 1 = _
  simp only [Sha.fixed, List.nil_append]
  have : (((j : Int) + 1) % 256).toNat = j + 1 := by omega
  rw [this]
set_option maxRecDepth 100000 in
set_option maxHeartbeats 1000000 in
theorem expand_any (key info : ByteArray) (n : Nat) (hn1 : 1 ≤ n) (hn : n ≤ 8160) (w : World) (hk : key.size ≤ 140737488355000) (hi : info.size ≤ 1000000) :
    Calls Tryz.prog 212 #[.string key, .string info, .int .i64 n] w fun e w' => e = .returned (.tuple #[.string (str (Sha.expand key.data.toList info.data.toList n)), .int .i64 0]) ∧ Below w.heap.size w w' := by
  obtain ⟨i0, hi0, hz0, hz1, hz2⟩ := info_parts info_byte
  have n1 : (1 : Int) ≤ n := by omega
  have n2 : (n : Int) ≤ 8160 := by omega
  have hil : info.data.toList.length = info.size := by rw [Array.length_toList]; rfl
  have HIL := Lib.hid hil
  clear hil
  go_enter Tryz.func212, Tryz.ntmps212
  go_wp2_with fail
  go_loopg [8, 9, 10] 256 (fun k v t i wr => ∃ j : Nat, j + k = 256 ∧ 32 * j ≤ n + 31 ∧ i = .int .i64 ((j : Int) + 1) ∧ t = .string (str (Sha.parts key.data.toList info.data.toList j).1) ∧ Below w.heap.size w wr ∧
    wr.ownsRow w.heap.size 5 1 v (32 * j) (bytesV (Sha.parts key.data.toList info.data.toList j).2))
  case atStart => exact ⟨0, by omega, by omega, rfl, rfl, Below.refl _ _, World.ownsRow_nil _ _ _ _⟩
  case round =>
    obtain ⟨j, hjk, hjn, rfl, rfl, hb, hown⟩ := hrel
    have HO := Lib.hid hown
    have HB := Lib.hid hb
    have hsz := hb.size
    obtain ⟨av, capv, hv, hel⟩ := elems_of_owned byteV hown
    rw [Sha.parts_length] at hv
    subst hv
    have hcap : 32 * j ≤ capv := by
      rcases hel with ⟨h0, _⟩ | ⟨_, _, _, _, hlc, _⟩
      · have := congrArg List.length h0; rw [Sha.parts_length] at this; simp at this; omega
      · rw [Sha.parts_length] at hlc; exact hlc
    have HEL : Hid (ElemsAt bytesS wr av capv (Sha.parts key.data.toList info.data.toList j).2) := hel
    have HPL := Lib.hid (Sha.parts_length key.data.toList info.data.toList j)
    clear hown hb hel
    by_cases hlt : 32 * j < n
    · have hlt' : (32 * (j : Int)) < n := by omega
      obtain ⟨bt, hbt⟩ : ∃ bt, bt = UInt8.ofNat (j + 1) := ⟨_, rfl⟩
      have HBT := Lib.hid hbt
      have hst : Hid (Sha.parts key.data.toList info.data.toList (j + 1) = (Sha.tag key.data.toList ((Sha.parts key.data.toList info.data.toList j).1 ++ (info.data.toList ++ [bt])), (Sha.parts key.data.toList info.data.toList j).2 ++ Sha.tag key.data.toList ((Sha.parts key.data.toList info.data.toList j).1 ++ (info.data.toList ++ [bt])))) := by rw [hbt]; rfl
      have ht1 : (Sha.parts key.data.toList info.data.toList j).1.length ≤ 32 := by
        cases j with
        | zero => simp [Sha.parts]
        | succ j => simp [Sha.parts, Sha.tag_length]
      have HT1 := Lib.hid ht1
      clear ht1 hbt
      go_wp2_with fail
      refine (fixed_i _ _ (by decide) (by decide) _).mono ?_
      rintro e w1 ⟨rfl, hb1⟩
      rw [fixed_one j (by omega), ← HBT.out]
      have HO1 := Lib.hid (ownsRow_below HO.out hb1)
      have HB1 := Lib.hid (HB.out.trans (hb1.mono hsz))
      have hsz1 := HB1.out.size
      clear hb1 HO HB
      have hj : joined [str (Sha.parts key.data.toList info.data.toList j).1, info, str [bt]] = (Sha.parts key.data.toList info.data.toList j).1 ++ (info.data.toList ++ [bt]) := by simp [joined, str]
      have HJ := Lib.hid hj
      have hjl : Hid ((joined [str (Sha.parts key.data.toList info.data.toList j).1, info, str [bt]]).length ≤ 140737488355000) := by
        have h3 := HT1.out
        have h4 := HIL.out
        show _ ≤ _
        rw [hj]; simp only [List.length_append, List.length_singleton]; omega
      clear hj
      go_wp2_with fail
      refine (tag_any key (.slice (some ⟨w1.heap.size, 0, none⟩) 3 3) [str (Sha.parts key.data.toList info.data.toList j).1, info, str [bt]] _ (SliceOf.litS _ _ rfl _ 9 3 rfl (by decide) _ rfl) (by omega) (by simp [maxLen]) hjl.out).mono ?_
      rintro e w2 ⟨rfl, hb2⟩
      rw [HJ.out]
      obtain ⟨tg, htg⟩ : ∃ tg, tg = Sha.tag key.data.toList ((Sha.parts key.data.toList info.data.toList j).1 ++ (info.data.toList ++ [bt])) := ⟨_, rfl⟩
      have htl : (str tg).size = 32 := by rw [str_size, htg, Sha.tag_length]
      rw [← htg] at hst ⊢
      have HO2 := Lib.hid (ownsRow_below (HO1.out.alloc (.cells #[.string (str (Sha.parts key.data.toList info.data.toList j).1), .string info, .string (str [bt])] 9)) hb2)
      have HB2 := Lib.hid ((HB1.out.alloc hsz1 (.cells #[.string (str (Sha.parts key.data.toList info.data.toList j).1), .string info, .string (str [bt])] 9)).trans (hb2.mono (by simp; omega)))
      have hsz2 := HB2.out.size
      have HTL := Lib.hid htl
      clear hb2 htg htl HO1 HB1
      go_wp2_with (at_builtin; refine Lib.wpList_append_own_string _ rfl _ _ 187 9 rfl w.heap.size 5 i0 Tryz.underlying187 Tryz.underlying9 hi0 hz0 hz1 hz2 _ _ _ rfl HO2.out (str tg) rfl (by rw [HTL.out]; simp [maxLen]; omega) (by rw [HTL.out]; omega) hsz2 ?_)
      intro v3 w3 hown3 hgr3 _
      have hb3 : Below w.heap.size w w3 := HB2.out.grown hgr3 hsz2 (fun k hk => (HO2.out.lt k hk).1)
      have hown4 : w3.ownsRow w.heap.size 5 1 v3 (32 * (j + 1)) (bytesV (Sha.parts key.data.toList info.data.toList (j + 1)).2) := by
        rw [hst.out]
        have e : bytesV ((Sha.parts key.data.toList info.data.toList j).2 ++ tg) = bytesV (Sha.parts key.data.toList info.data.toList j).2 ++ Lib.strCells (str tg) := by simp only [bytesV, List.map_append]; rfl
        rw [e, show 32 * (j + 1) = 32 * j + (str tg).size by rw [HTL.out]; omega]
        exact hown3
      have HO4 := Lib.hid hown4
      have HB4 := Lib.hid hb3
      have hp1 : Hid ((Sha.parts key.data.toList info.data.toList (j + 1)).1 = tg) := by rw [hst.out]; rfl
      clear hown3 hgr3 hb3 hown4
      go_wp2_with fail
      go_roundg (gk - 1)
      case measure => omega
      case rel => exact ⟨j + 1, by omega, by omega, by go_num, by rw [hp1.out], HB4.out, HO4.out⟩
    · have hge : ¬ (32 * (j : Int)) < n := by omega
      have hcap' : (n : Int) ≤ capv := by omega
      have hexp : Hid (Sha.expand key.data.toList info.data.toList n = (Sha.parts key.data.toList info.data.toList j).2.take n) := by
        show _ = _
        have e : (n + 31) / 32 = j := by omega
        rw [Sha.expand, e]
      generalize hP : (Sha.parts key.data.toList info.data.toList j).2 = P2 at *
      have hl2 : (P2.take n).length = n := by rw [List.length_take, HPL.out]; omega
      obtain ⟨b6, off6, rfl, _, _⟩ := HEL.out.byte (i := 0) (by rw [HPL.out]; omega)
      have hcv := run_convert_bytes_back (P := Tryz.prog) wr 187 9 5 ⟨b6, off6, none⟩ capv (P2.take n) Tryz.underlying187 Tryz.underlying5 Tryz.underlying9 (fun i hi => by
        obtain ⟨b7, off7, e7, _, h7⟩ := (HEL.out.take n).byte hi
        cases e7
        have e8 : (⟨b6, off6, none⟩ : Addr).add i = ⟨b6, off6 + i, none⟩ := by cases i <;> simp [Addr.add]
        rw [e8, h7]
        rw [List.getD_eq_getElem?_getD, List.getElem?_eq_getElem hi]
        rfl)
      rw [hl2] at hcv
      obtain ⟨res, hres⟩ : ∃ res, res = P2.take n := ⟨_, rfl⟩
      rw [← hres] at hcv hexp
      clear hl2 hres hP
      go_wp2
      go_ret2
      exact ⟨by rw [hexp.out]; rfl, HB.out⟩
end Go.Proofs.YtfdijpacbhomjaaGreatDoor
namespace Go.Proofs.YtfdijpacbhomjaaGreatDoor
open Go.RowKit
set_option maxHeartbeats 400000 in
theorem of_any (name key : ByteArray) (w : World) (hk : key.size ≤ 140737488355000) (hi : name.size ≤ 1000000) :
    Calls Tryz.prog 142 #[.string name, .string key] w fun e w' => e = .returned (.string (str (Sha.expand key.data.toList name.data.toList 32))) ∧ Below w.heap.size w w' := by
  go_enter Tryz.func142, Tryz.ntmps142
  go_wp2_with fail
  refine (expand_any key name 32 (by decide) (by decide) _ hk hi).mono ?_
  rintro e w1 ⟨rfl, hb⟩
  go_wp2_with fail
  go_ret
  exact ⟨rfl, hb⟩
def keysV (secret salt : List UInt8) : Value := .agg #[.string (str (Sha.encKey secret salt)), .string (str (Sha.macKey secret salt)), .string (str (Sha.headKey secret))]
set_option maxHeartbeats 1000000 in
theorem keys_any (secret salt : ByteArray) (w : World) (h1 : secret.size ≤ 140737488355000) (h2 : salt.size ≤ 140737488355000) :
    Calls Tryz.prog 89 #[.string secret, .string salt] w fun e w' => e = .returned (keysV secret.data.toList salt.data.toList) ∧ Below w.heap.size w w' := by
  have ht : ∀ a b, (str (Sha.tag a b)).size ≤ 140737488355000 := fun a b => by rw [str_size, Sha.tag_length]; decide
  have HT := Lib.hid ht
  clear ht
  go_enter Tryz.func89, Tryz.ntmps89
  go_wp2_with fail
  refine (extract_any salt secret _ h2 h1).mono ?_
  rintro e w1 ⟨rfl, hb1⟩
  have hB1 : Below w.heap.size w w1 := ((Below.refl w.heap.size w).alloc (Nat.le_refl _) _).trans (hb1.mono (by simp))
  have hg1 : w1.heap[w.heap.size]? = _ := heap_below (heap_alloc_new _ _) hb1
  have HB1 := Lib.hid hB1
  have HG1 := Lib.hid hg1
  have hs1 := hB1.size
  clear hb1 hB1 hg1
  go_wp2_with fail
  refine (of_any (str Sha.forBytes) _ _ (HT.out _ _) (by decide)).mono ?_
  rintro e w2 ⟨rfl, hb2⟩
  have HB2 := Lib.hid (HB1.out.trans (hb2.mono hs1))
  have HG2 := Lib.hid (heap_below HG1.out hb2)
  have hs2 := HB2.out.size
  clear hb2 HB1 HG1
  go_wp2_with fail
  refine (of_any (str Sha.forTags) _ _ (HT.out _ _) (by decide)).mono ?_
  rintro e w3 ⟨rfl, hb3⟩
  have HB3 := Lib.hid (HB2.out.trans (hb3.mono hs2))
  have HG3 := Lib.hid (heap_below HG2.out hb3)
  have hs3 := HB3.out.size
  clear hb3 HB2 HG2
  go_wp2_with fail
  refine (extract_any (str []) secret _ (by decide) h1).mono ?_
  rintro e w4 ⟨rfl, hb4⟩
  have HB4 := Lib.hid (HB3.out.trans (hb4.mono hs3))
  have HG4 := Lib.hid (heap_below HG3.out hb4)
  have hs4 := HB4.out.size
  clear hb4 HB3 HG3
  go_wp2_with fail
  refine (of_any (str Sha.forHeads) _ _ (HT.out _ _) (by decide)).mono ?_
  rintro e w5 ⟨rfl, hb5⟩
  have HB5 := Lib.hid (HB4.out.trans (hb5.mono hs4))
  have hg5 := heap_below HG4.out hb5
  clear hb5 HB4 HG4
  have c0 := cell_of hg5 0
  have c1 := cell_of hg5 1
  have c2 := cell_of hg5 2
  have z0 := frozen_of hg5 0
  have z1 := frozen_of hg5 1
  have z2 := frozen_of hg5 2
  simp at c0 c1 c2
  have HG5 := Lib.hid hg5
  clear hg5
  have hb6 := ((HB5.out.setCell (p := ⟨w.heap.size, 0, none⟩) (Nat.le_refl _) (.string (str (Sha.encKey secret.data.toList salt.data.toList)))).setCell (p := ⟨w.heap.size, 1, none⟩) (Nat.le_refl _) (.string (str (Sha.macKey secret.data.toList salt.data.toList)))).setCell (p := ⟨w.heap.size, 2, none⟩) (Nat.le_refl _) (.string (str (Sha.headKey secret.data.toList)))
  have hW := heap_setCell (heap_setCell (heap_setCell HG5.out 0 (.string (str (Sha.encKey secret.data.toList salt.data.toList)))) 1 (.string (str (Sha.macKey secret.data.toList salt.data.toList)))) 2 (.string (str (Sha.headKey secret.data.toList)))
  have HW := Lib.hid hW
  have HB6 := Lib.hid hb6
  clear hW hb6
  go_wp2
  refine bodyPost_ret (v := keysV secret.data.toList salt.data.toList) ?r ?d ?fin
  case fin => exact ⟨rfl, HB6.out⟩
  case d => rfl
  case r => exact results_cell_row Tryz.results89 _ _ w.heap.size _ _ (0, 0) _ rfl HW.out Tryz.underlying196 rfl (by kernel_rfl)
end Go.Proofs.YtfdijpacbhomjaaGreatDoor
namespace Go.Proofs.YtfdijpacbhomjaaGreatDoor
open Go.RowKit
set_option maxHeartbeats 400000 in
theorem width_any (x : Int) (w : World) :
    Calls Tryz.prog 283 #[.int .i64 x] w fun e w' => e = .returned (.int .i64 (Sha.width x : Nat)) ∧ w = w' := by
  have hc : (x < 1 ∧ Sha.width x = 1) ∨ (1 ≤ x ∧ x ≤ 32 ∧ (Sha.width x : Int) = x) ∨ (32 < x ∧ Sha.width x = 32) := by unfold Sha.width; omega
  rcases hc with ⟨h1, h2⟩ | ⟨h1, h2, h3⟩ | ⟨h1, h2⟩
  · rw [h2]
    clear h2
    go_enter Tryz.func283, Tryz.ntmps283
    go_wp2
    go_ret
    exact ⟨rfl, rfl⟩
  · rw [h3]
    clear h3
    go_enter Tryz.func283, Tryz.ntmps283
    go_wp2
    all_goals
      go_ret
      exact ⟨by first | rfl | (congr 2; omega), rfl⟩
  · rw [h2]
    clear h2
    go_enter Tryz.func283, Tryz.ntmps283
    go_wp2
    all_goals
      go_ret
      exact ⟨by first | rfl | (congr 2; omega), rfl⟩
set_option maxHeartbeats 400000 in
theorem msum_any (x : Int) (v : Value) (ss : List ByteArray) (w : World) (hs : SliceOf strS w v ss) (hlen : ss.length ≤ maxLen) (hsz : (joined ss).length ≤ 140737488355200) :
    Calls Tryz.prog 236 #[.int .i64 x, v] w fun e w' => e = .returned (.string (str (Sha.msum x (joined ss)))) ∧ Below w.heap.size w w' := by
  have hl : (str (Sha.sum (joined ss))).size = 32 := by rw [str_size, Sha.sum_length]
  have hw : Sha.width x ≤ 32 := by unfold Sha.width; omega
  go_enter Tryz.func236, Tryz.ntmps236
  go_wp2_with fail
  refine (shasum_any v ss _ hs hlen hsz).mono ?_
  rintro e w1 ⟨rfl, hb⟩
  obtain ⟨sm, hsm⟩ : ∃ sm, sm = str (Sha.sum (joined ss)) := ⟨_, rfl⟩
  have hfin : str (Sha.msum x (joined ss)) = sm.extract 0 (Sha.width x) := by
    rw [hsm, str, ByteArray.extract_mk]
    rfl
  rw [show (⟨(Sha.sum (joined ss)).toArray⟩ : ByteArray) = sm from hsm.symm]
  rw [← hsm] at hl
  have hl' : (sm.size : Int) = 32 := by omega
  have HF := Lib.hid hfin
  have HL := Lib.hid hl
  have hw1 : Sha.width x ≤ sm.size := by omega
  have hw2 : ((Sha.width x : Nat) : Int) ≤ sm.size := by omega
  clear hsm hfin hl hl'
  go_wp2_with fail
  refine (width_any x _).mono ?_
  rintro e w' ⟨rfl, rfl⟩
  go_wp2_with fail
  go_ret
  exact ⟨by rw [HF.out]; rfl, hb⟩
end Go.Proofs.YtfdijpacbhomjaaGreatDoor
