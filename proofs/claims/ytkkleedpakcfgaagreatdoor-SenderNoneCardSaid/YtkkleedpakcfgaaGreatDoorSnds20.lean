/-
  Sectors of zeros, epochs; a new disk is opened: plain.
  Stable sorting, plainly: what is sorted, and has each key's elements in their order, is one list alone.
  Rows of a block, put anew; stretches that change places.
  The reference's disk, while it is blank.
  The reference's sums, tags, keys, ciphers, for the machine as a function.
  Chapter 30's example.
  Chapter 30's example comes out true.
  A packet that came in: eight cells.
  The law of chapter 30.3: of a sender that is none there is nothing.
-/
import Derived.Test.YtkkleedpakcfgaaGreatDoorSnds19
import Derived.Orders
import Derived.Test.YtkkleedpakcfgaaGreatDoorSnds10
import Derived.Test.YtkkleedpakcfgaaGreatDoorSnds15
import Derived.Test.YtkkleedpakcfgaaGreatDoorSnds11
import Derived.Test.YtkkleedpakcfgaaGreatDoorSnds12
set_option linter.all false
namespace Go.Proofs.YtkkleedpakcfgaaGreatDoor
open Go.RowKit Abs
theorem Abs.Sl.len {m : Mem} {v : Value} {xs : List Value} (h : Sl m v xs) : ∃ a, v = .slice a xs.length xs.length := by
  rcases h with ⟨rfl, rfl⟩ | ⟨g, rfl, _⟩
  · exact ⟨none, rfl⟩
  · exact ⟨_, rfl⟩
set_option maxRecDepth 100000 in
theorem rfilled_at (s : List UInt8) (hs : s.length ≤ 256) (m : Mem) : Abs.Spec Tryz.prog 114 [.string (str s)] m fun u M => u = .string (str (filled s)) ∧ M = m := by
  refine Abs.Spec.of_empty (by intro x hx; simp at hx; subst hx; rfl) rfl ?_ m
  have hbs : bsize (str s) = s.length := rfl
  have nb := new_bytes_str s (by omega)
  refine WM Tryz.func114 Tryz.results114 Tryz.ntmps114 fun _ => ?_
  refine CW_seq (R0 ?_)
  refine CW_seq (R2 @nb @hbs ?_)
  have h0 : Sl ((⟨[]⟩ : Mem).push (.cells false 1 (bytesV s))) (.slice (some ⟨(⟨[]⟩ : Mem).size, 0, none⟩) s.length s.length) (bytesV (s ++ List.replicate 0 0)) := by
    rw [List.replicate_zero, List.append_nil]
    exact Sl.block (by simp [bytesV]) (Mem.get_push_new _ _)
  refine CW_seq (CW_block (MW_loop (fun j f m' => ∃ (i : Nat) (v : Value), j = 256 - s.length - i ∧ f = [(3, v)] ∧ i ≤ 256 - s.length ∧ Sl m' v (bytesV (s ++ List.replicate i 0)) ∧ Grows ⟨[]⟩ m' ∧ (∀ g l c, v = .slice (some ⟨g, 0, none⟩) l c → (⟨[]⟩ : Mem).size ≤ g)) (256 - s.length) ?_ ?_))
  · refine JK [3] ?_
    exact ⟨_, Thin.refl _, 0, _, rfl, rfl, by omega, h0, (Grows.refl _).push _, fun g l c e => by cases e; exact Nat.le_refl _⟩
  · rintro j f m' ⟨i, v, rfl, rfl, hi, hv, hgr, hnew⟩
    have hl : (bytesV (s ++ List.replicate i 0)).length = s.length + i := by simp [bytesV]
    obtain ⟨a, hva⟩ := hv.len
    rw [hl] at hva
    subst hva
    refine CW_seq (CW_seq (R0 ?_))
    refine CC (decide (((s.length + i : Nat) : Int) < 256)) (fun hq => CW_skip ?_) (fun hq => CW_exit ?_)
    · have hq := of_decide_eq_true hq
      obtain ⟨s', m2, happ, hs', hgr', hnew'⟩ := hv.app_u8 hgr hnew (.int .u8 0) (by rw [hl]; omega)
      rw [show bytesV (s ++ List.replicate i 0) ++ [.int .u8 0] = bytesV (s ++ List.replicate (i + 1) 0) by
        rw [List.replicate_succ', ← List.append_assoc]
        simp [bytesV, byteV]] at hs'
      have nu := new_u8 0
      refine S0 ?_
      refine CW_block (R2 @nu @happ ?_)
      refine JK [3] ?_
      exact ⟨_, Thin.refl _, 256 - s.length - (i + 1), ⟨i + 1, s', rfl, rfl, by omega, hs', hgr', hnew'⟩, by omega⟩
    · have hq := of_decide_eq_false hq
      obtain ⟨g, hg1, hg⟩ := hv.at (by rw [hl]; omega)
      rw [hl] at hg1
      cases hg1
      have hi2 : s.length + i = 256 := by omega
      have e2 : gToString Tryz.prog m'.get 74 9 (.slice (some ⟨g, 0, none⟩) (s.length + i) (s.length + i)) = some (.string (str (s ++ List.replicate i 0))) := to_str hg (by simp)
      rw [show s ++ List.replicate i 0 = filled s by unfold filled; congr 2; omega] at e2
      refine S0 ?_
      refine CW_seq (R1 @e2 ?_)
      refine T0 ?_
      first | exact ⟨_, Thin.refl _, rfl⟩ | exact ⟨_, Thin.refl _⟩ | exact ⟨_, Thin.refl _, rfl, rfl⟩
end Go.Proofs.YtkkleedpakcfgaaGreatDoor
namespace Go.Proofs.YtkkleedpakcfgaaGreatDoor
open Go.RowKit Abs
noncomputable def rsumG (ys : List Value) : Option Value := match ys with
  | [.string s] => bif Nat.ble s.size 1000000 then some (.string (str (Sha.sumF s.data.toList))) else none
  | _ => none
theorem rsumG_known (ys : List Value) (v : Value) (h : rsumG ys = some v) : Known Tryz.prog 246 ys v := by
  unfold rsumG at h
  split at h <;> first | (cases h; done) | skip
  rename_i s
  cases h1 : Nat.ble s.size 1000000 <;> rw [h1] at h <;> first | (cases h; done) | skip
  cases h
  have h1 := Nat.le_of_ble_eq_true h1
  rw [Sha.sumF_eq]
  exact fun m => rsum_at m s (by omega)
noncomputable def rtagG (ys : List Value) : Option Value := match ys with
  | [.string k, .string s] => bif Nat.ble k.size 1000000 then bif Nat.ble s.size 1000000 then some (.string (str (Sha.tagF k.data.toList s.data.toList))) else none else none
  | _ => none
theorem rtagG_known (ys : List Value) (v : Value) (h : rtagG ys = some v) : Known Tryz.prog 202 ys v := by
  unfold rtagG at h
  split at h <;> first | (cases h; done) | skip
  rename_i k s
  cases h1 : Nat.ble k.size 1000000 <;> rw [h1] at h <;> first | (cases h; done) | skip
  cases h2 : Nat.ble s.size 1000000 <;> rw [h2] at h <;> first | (cases h; done) | skip
  cases h
  have h1 := Nat.le_of_ble_eq_true h1
  have h2 := Nat.le_of_ble_eq_true h2
  rw [Sha.tagF_eq]
  exact fun m => rtag_at m k s (by omega) (by omega)
noncomputable def rfillG (ys : List Value) : Option Value := match ys with
  | [.string s] => bif Nat.ble s.size 256 then some (.string (str (filled s.data.toList))) else none
  | _ => none
theorem rfillG_known (ys : List Value) (v : Value) (h : rfillG ys = some v) : Known Tryz.prog 114 ys v := by
  unfold rfillG at h
  split at h <;> first | (cases h; done) | skip
  rename_i s
  cases h1 : Nat.ble s.size 256 <;> rw [h1] at h <;> first | (cases h; done) | skip
  cases h
  have h1 := Nat.le_of_ble_eq_true h1
  exact fun m => rfilled_at s.data.toList (by simpa using h1) m
noncomputable def rkeysG (ys : List Value) : Option Value := match ys with
  | [.string a, .string b] => bif Nat.ble a.size 1000 then bif Nat.ble b.size 1000 then some (keysF a.data.toList b.data.toList) else none else none
  | _ => none
theorem rkeysG_known (ys : List Value) (v : Value) (h : rkeysG ys = some v) : Known Tryz.prog 135 ys v := by
  unfold rkeysG at h
  split at h <;> first | (cases h; done) | skip
  rename_i k s
  cases h1 : Nat.ble k.size 1000 <;> rw [h1] at h <;> first | (cases h; done) | skip
  cases h2 : Nat.ble s.size 1000 <;> rw [h2] at h <;> first | (cases h; done) | skip
  cases h
  have h1 := Nat.le_of_ble_eq_true h1
  have h2 := Nat.le_of_ble_eq_true h2
  rw [keysF_eq]
  exact fun m => rkeys_at k.data.toList s.data.toList (by simp; omega) (by simp; omega) m
def xor3 (b1 b2 b3 l : List UInt8) : List UInt8 := List.zipWith (· ^^^ ·) (b1 ++ b2 ++ b3) l
set_option maxRecDepth 100000 in
theorem xor3_eq (key nonce l : List UInt8) (h : l.length = 192) : Cha.xorN key nonce 1 l l.length = xor3 (Cha.block key nonce 1) (Cha.block key nonce 2) (Cha.block key nonce 3) l := by
  have l1 := Cha.block_length key nonce 1
  have l2 := Cha.block_length key nonce 2
  have l3 := Cha.block_length key nonce 3
  refine List.ext_getElem (by simp [Cha.xorN, xor3, h, l1, l2, l3]) fun i h1 h2 => ?_
  have hi : i < 192 := by simpa [Cha.xorN, h] using h1
  simp only [Cha.xorN, xor3, List.getElem_map, List.getElem_range, List.getElem_zipWith, Cha.xorAt]
  have hl : l.getD i 0 = l[i]'(by omega) := by simp [List.getD, List.getElem?_eq_getElem (show i < l.length by omega)]
  rw [hl]
  congr 1
  rcases (show i / 64 = 0 ∨ i / 64 = 1 ∨ i / 64 = 2 by omega) with e | e | e <;> rw [e]
  · rw [List.getElem_append_left (by simp [l1, l2]; omega), List.getElem_append_left (by omega)]
    have : i % 64 = i := by omega
    simp only [this, List.getD, List.getElem?_eq_getElem (show i < (Cha.block key nonce 1).length by omega), Nat.add_zero, Option.getD_some]
  · rw [List.getElem_append_left (by simp [l1, l2]; omega), List.getElem_append_right (by omega)]
    simp only [List.getD, List.getElem?_eq_getElem (show i % 64 < (Cha.block key nonce 2).length by omega), Option.getD_some, l1]
    congr 1; omega
  · rw [List.getElem_append_right (by simp [l1, l2]; omega)]
    simp only [List.getD, List.getElem?_eq_getElem (show i % 64 < (Cha.block key nonce 3).length by omega), Option.getD_some, List.length_append, l1, l2]
    congr 1; omega
noncomputable def xorB3 (B : List UInt8 → List UInt8 → Nat → List UInt8) (ys : List Value) : Option Value := match ys with
  | [.string key, .string nonce, .int .i64 (.ofNat 1), .string s] => bif Nat.beq key.size 32 && (Nat.beq nonce.size 12 && Nat.beq s.size 192) then
      forceL forceB (B key.data.toList nonce.data.toList 1) fun b1 => forceL forceB (B key.data.toList nonce.data.toList 2) fun b2 => forceL forceB (B key.data.toList nonce.data.toList 3) fun b3 =>
      some (.tuple #[.string (str (xor3 b1 b2 b3 s.data.toList)), .int .i64 0]) else none
  | _ => none
theorem xorB3_known (B : List UInt8 → List UInt8 → Nat → List UInt8) (hB : ∀ k n c, Cha.block k n c = B k n c) (ys : List Value) (v : Value) (h : xorB3 B ys = some v) : Known Tryz.prog 233 ys v := by
  unfold xorB3 at h
  split at h <;> first | (cases h; done) | skip
  rename_i key nonce s
  obtain ⟨b, h1⟩ : ∃ b, (Nat.beq key.size 32 && (Nat.beq nonce.size 12 && Nat.beq s.size 192)) = b := ⟨_, rfl⟩
  rw [h1] at h
  cases b with
  | false => cases h
  | true =>
  simp only [cond_true] at h
  rw [forceL_eq forceB_eq, forceL_eq forceB_eq, forceL_eq forceB_eq] at h
  cases h
  simp only [Bool.and_eq_true] at h1
  obtain ⟨k1, k2, k3⟩ := h1
  have k1 := Nat.eq_of_beq_eq_true k1
  have k2 := Nat.eq_of_beq_eq_true k2
  have k3 := Nat.eq_of_beq_eq_true k3
  have hl : s.data.toList.length = 192 := by simpa using k3
  intro m
  have := xor_at key.data.toList nonce.data.toList s.data.toList 1 (by simpa using k1) (by simpa using k2) (by omega) (by omega) (by omega) m
  rw [xor3_eq _ _ _ hl, hB, hB, hB] at this
  exact this
noncomputable def xorG : List Value → Option Value := xorB3 Cha.block
theorem xorG_known : ∀ (ys : List Value) (v : Value), xorG ys = some v → Known Tryz.prog 233 ys v := xorB3_known Cha.block fun _ _ _ => rfl
noncomputable def rleafG (ys : List Value) : Option Value := match ys with
  | [.int .i64 (.ofNat n), .string a] => bif Nat.beq n 32 then bif Nat.ble a.size 1000000 then some (.string (str (Sha.sumF (0 :: a.data.toList)))) else none else none
  | _ => none
theorem rleafG_known (ys : List Value) (v : Value) (h : rleafG ys = some v) : Known Tryz.prog 234 ys v := by
  unfold rleafG at h
  split at h <;> first | (cases h; done) | skip
  rename_i n a
  cases h1 : Nat.beq n 32 <;> rw [h1] at h <;> first | (cases h; done) | skip
  cases h2 : Nat.ble a.size 1000000 <;> rw [h2] at h <;> first | (cases h; done) | skip
  cases h
  have h1 := Nat.eq_of_beq_eq_true h1
  have h2 := Nat.le_of_ble_eq_true h2
  subst h1
  rw [Sha.sumF_eq]
  exact fun m => rleaf_at a.data.toList (by simpa using h2) m
def rkeysTab : List (FuncId × List Value × Value) := [(135, [.string (str [115]), .string (str Ex.salt)], Ex.keys1), (135, [.string (str [115]), .string (str [])], Ex.keys2)]
theorem rkeysTab_known : ∀ e ∈ rkeysTab, Known Tryz.prog e.1 e.2.1 e.2.2 := by
  intro e he
  simp only [rkeysTab, List.mem_cons, List.not_mem_nil, or_false] at he
  rcases he with rfl | rfl
  · intro m; rw [← Ex.keys1_eq]; exact rkeys_at [115] Ex.salt (by decide) (by decide) m
  · intro m; rw [← Ex.keys2_eq]; exact rkeys_at [115] [] (by decide) (by decide) m
noncomputable def refT (T : Caller) : Caller := alsoT (tabT rkeysTab) <| flatT 234 rleafG <| flatT 114 rfillG (flatT 233 xorG (flatT 135 rkeysG (flatT 202 rtagG (flatT 246 rsumG T))))
theorem refT_good {T : Caller} (hT : Abs.Good Tryz.prog T) : Abs.Good Tryz.prog (refT T) := alsoT_good (tabT_good rkeysTab rkeysTab_known) (flatT_good (flatT_good (flatT_good (flatT_good (flatT_good (flatT_good hT rsumG_known) rtagG_known) rkeysG_known) xorG_known) rfillG_known) rleafG_known)
end Go.Proofs.YtkkleedpakcfgaaGreatDoor
namespace Go.Proofs.YtkkleedpakcfgaaGreatDoor
open Go.RowKit Abs
noncomputable def T30 : Caller := depT (refT noT)
theorem T30_good : Abs.Good Tryz.prog T30 := depT_good (refT_good noT_good)
end Go.Proofs.YtkkleedpakcfgaaGreatDoor
--LONG
/-
  Of a sender that is none there is nothing.
-/
namespace Go.Proofs.YtkkleedpakcfgaaGreatDoor
open Go.RowKit Abs
noncomputable def fst? (r : Option (Value × FMem)) : Option Value := match r with
  | some p => some p.1
  | none => none
theorem known_of_val {P : Program} (hmix : P.follows .mixedOrders = true) {T : Caller} (hT : Abs.Good P T) {L n : Nat} {k : FuncId} {xs : List Value} {v : Value} (hx : ∀ x ∈ xs, flat 3 x = true) (hv : flat 3 v = true)
    (h : fst? (fCall P T L n k xs m0) = some v) : Known P k xs v := fun m => by
  cases hc : fCall P T L n k xs m0 with
  | none => rw [hc] at h; cases h
  | some p =>
    obtain ⟨u, f'⟩ := p
    rw [hc] at h
    have hu : u = v := Option.some.inj h
    subst hu
    have hm : MR m0 ⟨[]⟩ := ⟨rfl, Nat.le_refl _, fun b x hb => by cases hb⟩
    obtain ⟨m', _, hs, _⟩ := fCall_good hmix hT L n _ _ _ _ _ hc ⟨[]⟩ hm
    exact Abs.Spec.of_empty hx hv (hs.mono fun u m h => h.1) m
def noSet : Value := .agg #[.int .i64 0, .int .u64 0, .int .u64 0, .int .u64 0, .int .u64 0]
theorem new_none : Known Tryz.prog 8 [.pointer none] (.pointer none) := known_of_val hmix noT_good (L := 10) (n := 5) (List.all_eq_true.1 rfl) rfl (by kernel_rfl)
theorem current_none : Known Tryz.prog 9 [.pointer none] (.int .i64 0) := known_of_val hmix noT_good (L := 10) (n := 5) (List.all_eq_true.1 rfl) rfl (by kernel_rfl)
theorem done_none : Known Tryz.prog 10 [.pointer none] (.slice none 0 0) := known_of_val hmix noT_good (L := 10) (n := 5) (List.all_eq_true.1 rfl) rfl (by kernel_rfl)
theorem acked_none : Known Tryz.prog 11 [.pointer none] noSet := known_of_val hmix noT_good (L := 10) (n := 5) (List.all_eq_true.1 rfl) rfl (by kernel_rfl)
theorem flight_none : Known Tryz.prog 12 [.pointer none] noSet := known_of_val hmix noT_good (L := 10) (n := 5) (List.all_eq_true.1 rfl) rfl (by kernel_rfl)
theorem tick_none (now : Int) : Known Tryz.prog 13 [.pointer none, .int .i64 now] (.slice none 0 0) := known_of_val hmix noT_good (L := 10) (n := 5) (List.all_eq_true.1 rfl) rfl (by kernel_rfl)
set_option maxRecDepth 100000 in
set_option maxHeartbeats 2000000 in
theorem hear_none (M : Mem) (xs : Array Value) (h1 : oneAll xs.toList = true) : Abs.Spec Tryz.prog 14 [.pointer none, .agg xs] M fun u M' => u = .bool false ∧ More M M' := by
  refine Abs.Spec.walkM Tryz.func14 (by rfl) _ Tryz.results14 _ Tryz.ntmps14 (by simp) ?_
  intro _ _ _
  have bx : nBox Tryz.prog 33 (.agg xs) = some (.cells false (aStride Tryz.prog 33) xs.toList) := nBox_row 33 h1
  generalize aStride Tryz.prog 33 = s1 at bx
  refine CW_seq (CW_region ?_)
  simp only [zZ, reduceIte, Nat.reduceLT, Int.reduceToNat, Int.reduceLE, Int.reduceEq, Int.reduceLT, Nat.reduceEqDiff, Nat.reduceAdd, zDk, pd_eql, pd_neq, pd_eql0, pd_neq0, zPt, bx]
  have pe : aBin Tryz.prog .eql 34 true (.pointer none) (.pointer none) = some (.bool true) := by kernel_rfl
  refine CW_seq (CW_seq (CW_draw hmix 25 (by kernel_rfl) (by kernel_rfl) ?_))
  simp only [zZ, reduceIte, Nat.reduceLT, Int.reduceToNat, Int.reduceLE, Int.reduceEq, Int.reduceLT, Nat.reduceEqDiff, Nat.reduceAdd, zDk, pd_eql, pd_neq, pd_eql0, pd_neq0, zPt, pe]
  refine CW_cond true (by rfl) (fun _ => CW_seq (CW_region ?_)) (fun h => by cases h)
  simp only [zZ, reduceIte, Nat.reduceLT, Int.reduceToNat, Int.reduceLE, Int.reduceEq, Int.reduceLT, Nat.reduceEqDiff, Nat.reduceAdd, zDk, pd_eql, pd_neq, pd_eql0, pd_neq0, zPt]
  refine CW_ret ?_
  simp only [zZ, reduceIte, Nat.reduceLT, Int.reduceToNat, Int.reduceLE, Int.reduceEq, Int.reduceLT, Nat.reduceEqDiff, Nat.reduceAdd, zDk, pd_eql, pd_neq, pd_eql0, pd_neq0, zPt, mEnd, sAnswer, sAnswer.sRes]
  exact ⟨_, Thin.refl _, More.push _ _⟩
set_option maxRecDepth 100000 in
set_option maxHeartbeats 4000000 in
theorem sender_none (aw : Known Tryz.prog 15 [] (.bool true)) (now : Int) (M : Mem) (c0 c1 c2 c3 c4 c5 c6 c7 : Value) (h1 : oneAll [c0, c1, c2, c3, c4, c5, c6, c7] = true) :
    Abs.Spec Tryz.prog 4 [.int .i64 now, .agg #[c0, c1, c2, c3, c4, c5, c6, c7]] M fun u _ => u = .bool true := by
  refine Abs.Spec.walkM Tryz.func4 (by rfl) _ Tryz.results4 _ Tryz.ntmps4 (by simp) ?_
  intro _ _ _
  have bx : nBox Tryz.prog 33 (.agg #[c0, c1, c2, c3, c4, c5, c6, c7]) = some (.cells false (aStride Tryz.prog 33) [c0, c1, c2, c3, c4, c5, c6, c7]) := nBox_row 33 h1
  generalize aStride Tryz.prog 33 = s1 at bx
  have pe : aBin Tryz.prog .eql 34 true (.pointer none) (.pointer none) = some (.bool true) := by kernel_rfl
  refine CW_seq (CW_region ?_)
  simp only [zZ, reduceIte, Nat.reduceLT, Int.reduceToNat, Int.reduceLE, Int.reduceEq, Int.reduceLT, Nat.reduceEqDiff, Nat.reduceAdd, zDk, pd_eql, pd_neq, pd_eql0, pd_neq0, zPt, bx]
  refine CW_seq (CW_region ?_)
  simp only [zZ, reduceIte, Nat.reduceLT, Int.reduceToNat, Int.reduceLE, Int.reduceEq, Int.reduceLT, Nat.reduceEqDiff, Nat.reduceAdd, zDk, pd_eql, pd_neq, pd_eql0, pd_neq0, zPt]
  have q0 : ((0 : Int) == 0) = true := rfl
  have q1 : ((some true : Option Bool) == some true) = true := rfl
  have q2 : ((((0 : Nat) : Int)) == 0) = true := rfl
  have lp : ∀ (get : Nat → Option Blk) (b o : Nat), gLoad Tryz.prog get 33 (.pointer (some ⟨b, o, none⟩)) = rowIn 8 o (get b) := fun get b o =>
    ld_row Tryz.underlying33 (row_struct _) (show Tryz.prog.info? 33 = some Tryz.t33 by kernel_rfl) rfl get b o
  have rp : rowIn 8 0 (some (.cells false s1 [c0, c1, c2, c3, c4, c5, c6, c7])) = some (.agg #[c0, c1, c2, c3, c4, c5, c6, c7]) := rfl
  have es : aBin Tryz.prog .eql 42 false noSet noSet = some (.bool true) := by kernel_rfl
  have bs : aBuild Tryz.prog 42 [] = some noSet := by kernel_rfl
  refine CW_seq (CW_region ?_)
  simp only [zZ, reduceIte, Nat.reduceLT, Int.reduceToNat, Int.reduceLE, Int.reduceEq, Int.reduceLT, Nat.reduceEqDiff, Nat.reduceAdd, zDk, pd_eql, pd_neq, pd_eql0, pd_neq0, zPt, pe]
  refine ⟨by kernel_rfl, _, new_none _, ?_⟩
  rintro _ M9 ⟨rfl, e9⟩; replace e9 := e9.symm; subst e9
  simp only [zZ, reduceIte, Nat.reduceLT, Int.reduceToNat, Int.reduceLE, Int.reduceEq, Int.reduceLT, Nat.reduceEqDiff, Nat.reduceAdd, zDk, pd_eql, pd_neq, pd_eql0, pd_neq0, zPt, pe]
  refine ⟨by kernel_rfl, _, current_none _, ?_⟩
  rintro _ M9 ⟨rfl, e9⟩; replace e9 := e9.symm; subst e9
  simp only [zZ, reduceIte, Nat.reduceLT, Int.reduceToNat, Int.reduceLE, Int.reduceEq, Int.reduceLT, Nat.reduceEqDiff, Nat.reduceAdd, zDk, pd_eql, pd_neq, pd_eql0, pd_neq0, zPt, q0, q1]
  refine ⟨by kernel_rfl, _, done_none _, ?_⟩
  rintro _ M9 ⟨rfl, e9⟩; replace e9 := e9.symm; subst e9
  simp only [zZ, reduceIte, Nat.reduceLT, Int.reduceToNat, Int.reduceLE, Int.reduceEq, Int.reduceLT, Nat.reduceEqDiff, Nat.reduceAdd, zDk, pd_eql, pd_neq, pd_eql0, pd_neq0, zPt, q0, q1, q2]
  refine ⟨by kernel_rfl, _, acked_none _, ?_⟩
  rintro _ M9 ⟨rfl, e9⟩; replace e9 := e9.symm; subst e9
  simp only [zZ, reduceIte, Nat.reduceLT, Int.reduceToNat, Int.reduceLE, Int.reduceEq, Int.reduceLT, Nat.reduceEqDiff, Nat.reduceAdd, zDk, pd_eql, pd_neq, pd_eql0, pd_neq0, zPt, es, bs]
  refine ⟨by kernel_rfl, _, flight_none _, ?_⟩
  rintro _ M9 ⟨rfl, e9⟩; replace e9 := e9.symm; subst e9
  simp only [zZ, reduceIte, Nat.reduceLT, Int.reduceToNat, Int.reduceLE, Int.reduceEq, Int.reduceLT, Nat.reduceEqDiff, Nat.reduceAdd, zDk, pd_eql, pd_neq, pd_eql0, pd_neq0, zPt, es, bs]
  refine ⟨by kernel_rfl, _, tick_none now _, ?_⟩
  rintro _ M9 ⟨rfl, e9⟩; replace e9 := e9.symm; subst e9
  simp only [zZ, reduceIte, Nat.reduceLT, Int.reduceToNat, Int.reduceLE, Int.reduceEq, Int.reduceLT, Nat.reduceEqDiff, Nat.reduceAdd, zDk, pd_eql, pd_neq, pd_eql0, pd_neq0, zPt, q0, q1, q2, Tryz.underlying44, lp, Mem.get_push_new, rp]
  refine ⟨by kernel_rfl, _, hear_none _ _ h1, ?_⟩
  rintro _ M9 ⟨rfl, mo⟩
  simp only [zZ, reduceIte, Nat.reduceLT, Int.reduceToNat, Int.reduceLE, Int.reduceEq, Int.reduceLT, Nat.reduceEqDiff, Nat.reduceAdd, zDk, pd_eql, pd_neq, pd_eql0, pd_neq0, zPt]
  refine ⟨by kernel_rfl, _, aw _, ?_⟩
  rintro _ M8 ⟨rfl, e9⟩; replace e9 := e9.symm; subst e9
  simp only [zZ, reduceIte, Nat.reduceLT, Int.reduceToNat, Int.reduceLE, Int.reduceEq, Int.reduceLT, Nat.reduceEqDiff, Nat.reduceAdd, zDk, pd_eql, pd_neq, pd_eql0, pd_neq0, zPt]
  refine CW_ret ?_
  simp only [zZ, reduceIte, Nat.reduceLT, Int.reduceToNat, Int.reduceLE, Int.reduceEq, Int.reduceLT, Nat.reduceEqDiff, Nat.reduceAdd, zDk, pd_eql, pd_neq, pd_eql0, pd_neq0, zPt, mEnd, sAnswer, sAnswer.sRes]
  exact ⟨_, Thin.refl _⟩
end Go.Proofs.YtkkleedpakcfgaaGreatDoor
namespace Go.Proofs.YtkkleedpakcfgaaGreatDoor
open Go.RowKit Abs
set_option maxRecDepth 100000 in
theorem awake30_spec : Known Tryz.prog 15 [] (.bool true) := known_of_run (xs := []) (v := .bool true) hmix T30_good (L := 100000) (n := 60) (fun x hx => by cases hx) rfl (by kernel_rfl)
end Go.Proofs.YtkkleedpakcfgaaGreatDoor
namespace Go.Proofs.YtkkleedpakcfgaaGreatDoor
open Go.RowKit Abs
set_option maxRecDepth 100000 in
theorem arg_pkt {m : Mem} {B : Nat} {v : Value} (h : ArgOf Tryz.prog m B 33 v) :
    ∃ c0 c1 c2 c3 c4 c5 c6 c7 : Value, v = .agg #[c0, c1, c2, c3, c4, c5, c6, c7] ∧ oneAll [c0, c1, c2, c3, c4, c5, c6, c7] = true := by
  obtain ⟨cs, rfl, h2⟩ := arg_row Tryz.underlying33 h
  obtain ⟨hl, hf⟩ := h2.inv_struct Tryz.underlying33
  have hl : cs.length = 8 := hl
  match cs, hl with
  | [c0, c1, c2, c3, c4, c5, c6, c7], _ =>
  obtain ⟨a0, r0, _⟩ := (hf 0 _ rfl).inv_int Tryz.underlying3
  obtain ⟨a1, r1, _⟩ := (hf 1 _ rfl).inv_int Tryz.underlying3
  obtain ⟨a2, r2, _⟩ := (hf 2 _ rfl).inv_int Tryz.underlying3
  obtain ⟨a3, r3, _⟩ := (hf 3 _ rfl).inv_int Tryz.underlying3
  obtain ⟨a4, r4, _⟩ := (hf 4 _ rfl).inv_int Tryz.underlying3
  obtain ⟨a5, r5, _⟩ := (hf 5 _ rfl).inv_int Tryz.underlying3
  obtain ⟨a6, r6, _⟩ := (hf 6 _ rfl).inv_string Tryz.underlying9
  obtain ⟨v7, ss, hv, hr, _⟩ := ARep.list (fun s : ByteArray => [Value.string s]) (fun _ => True) (n := 1) Tryz.underlying31 (by kernel_rfl) (fun cs hc => by
    obtain ⟨s, rfl, _⟩ := hc.inv_string Tryz.underlying9
    exact ⟨s, rfl, trivial⟩) (hf 7 _ rfl)
  have hv2 : c7 = v7 := by
    have h : [c7] = [v7] := hv
    simpa using h
  obtain ⟨p, k, e, _⟩ := id hr
  have q0 : c0 = .int .i64 a0 := (List.cons.inj (show [c0] = [.int .i64 a0] from r0)).1
  have q1 : c1 = .int .i64 a1 := (List.cons.inj (show [c1] = [.int .i64 a1] from r1)).1
  have q2 : c2 = .int .i64 a2 := (List.cons.inj (show [c2] = [.int .i64 a2] from r2)).1
  have q3 : c3 = .int .i64 a3 := (List.cons.inj (show [c3] = [.int .i64 a3] from r3)).1
  have q4 : c4 = .int .i64 a4 := (List.cons.inj (show [c4] = [.int .i64 a4] from r4)).1
  have q5 : c5 = .int .i64 a5 := (List.cons.inj (show [c5] = [.int .i64 a5] from r5)).1
  have q6 : c6 = .string a6 := (List.cons.inj (show [c6] = [.string a6] from r6)).1
  exact ⟨c0, c1, c2, c3, c4, c5, c6, c7, rfl, by rw [q0, q1, q2, q3, q4, q5, q6, hv2, e]; rfl⟩
end Go.Proofs.YtkkleedpakcfgaaGreatDoor
namespace Go.Proofs.YtkkleedpakcfgaaGreatDoor
open Go.RowKit Abs
theorem law_snd (now : Int) (M : Mem) (c0 c1 c2 c3 c4 c5 c6 c7 : Value) (h1 : oneAll [c0, c1, c2, c3, c4, c5, c6, c7] = true) :
    Abs.Spec Tryz.prog 4 [.int .i64 now, .agg #[c0, c1, c2, c3, c4, c5, c6, c7]] M fun u _ => u = .bool true := sender_none awake30_spec now M c0 c1 c2 c3 c4 c5 c6 c7 h1
end Go.Proofs.YtkkleedpakcfgaaGreatDoor
