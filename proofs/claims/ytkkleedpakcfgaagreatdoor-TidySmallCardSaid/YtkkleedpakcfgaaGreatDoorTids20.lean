/-
  Sectors of zeros, epochs; a new disk is opened: plain.
  Stable sorting, plainly: what is sorted, and has each key's elements in their order, is one list alone.
  Rows of a block, put anew; stretches that change places.
  The reference's disk, while it is blank.
  The reference's sums, tags, keys, ciphers, for the machine as a function.
  Chapter 30's example.
  The walk of scrub.Scan on a disk of zeros, but for its epoch.
  Chapter 42's example comes out true.
  A new disk is blank.
-/
import Derived.Test.YtkkleedpakcfgaaGreatDoorTids19
import Derived.Orders
import Derived.Test.YtkkleedpakcfgaaGreatDoorTids10
import Derived.Test.YtkkleedpakcfgaaGreatDoorTids15
import Derived.Test.YtkkleedpakcfgaaGreatDoorTids11
import Derived.Test.YtkkleedpakcfgaaGreatDoorTids14
set_option linter.all false
namespace Go.Proofs.YtkkleedpakcfgaaGreatDoor
open Go.RowKit Abs
theorem Abs.Sl.len {m : Mem} {v : Value} {xs : List Value} (h : Sl m v xs) : ∃ a, v = .slice a xs.length xs.length := by
  rcases h with ⟨rfl, rfl⟩ | ⟨g, rfl, _⟩
  · exact ⟨none, rfl⟩
  · exact ⟨_, rfl⟩
set_option maxRecDepth 100000 in
theorem rfilled_at (s : List UInt8) (hs : s.length ≤ 256) (m : Mem) : Abs.Spec Tryz.prog 114 [.string (str s)] m fun u M => u = .string (str (filled s)) ∧ M = m := by
  refine Abs.Spec.of_empty (by intro x hx; simp at hx; subst hx; rfl) rfl ?_ m
  have hbs : bsize (str s) = s.length := rfl
  have nb := new_bytes_str s (by omega)
  refine WM Tryz.func114 Tryz.results114 Tryz.ntmps114 fun _ => ?_
  refine CW_seq (R0 ?_)
  refine CW_seq (R2 @nb @hbs ?_)
  have h0 : Sl ((⟨[]⟩ : Mem).push (.cells false 1 (bytesV s))) (.slice (some ⟨(⟨[]⟩ : Mem).size, 0, none⟩) s.length s.length) (bytesV (s ++ List.replicate 0 0)) := by
    rw [List.replicate_zero, List.append_nil]
    exact Sl.block (by simp [bytesV]) (Mem.get_push_new _ _)
  refine CW_seq (CW_block (MW_loop (fun j f m' => ∃ (i : Nat) (v : Value), j = 256 - s.length - i ∧ f = [(3, v)] ∧ i ≤ 256 - s.length ∧ Sl m' v (bytesV (s ++ List.replicate i 0)) ∧ Grows ⟨[]⟩ m' ∧ (∀ g l c, v = .slice (some ⟨g, 0, none⟩) l c → (⟨[]⟩ : Mem).size ≤ g)) (256 - s.length) ?_ ?_))
  · refine JK [3] ?_
    exact ⟨_, Thin.refl _, 0, _, rfl, rfl, by omega, h0, (Grows.refl _).push _, fun g l c e => by cases e; exact Nat.le_refl _⟩
  · rintro j f m' ⟨i, v, rfl, rfl, hi, hv, hgr, hnew⟩
    have hl : (bytesV (s ++ List.replicate i 0)).length = s.length + i := by simp [bytesV]
    obtain ⟨a, hva⟩ := hv.len
    rw [hl] at hva
    subst hva
    refine CW_seq (CW_seq (R0 ?_))
    refine CC (decide (((s.length + i : Nat) : Int) < 256)) (fun hq => CW_skip ?_) (fun hq => CW_exit ?_)
    · have hq := of_decide_eq_true hq
      obtain ⟨s', m2, happ, hs', hgr', hnew'⟩ := hv.app_u8 hgr hnew (.int .u8 0) (by rw [hl]; omega)
      rw [show bytesV (s ++ List.replicate i 0) ++ [.int .u8 0] = bytesV (s ++ List.replicate (i + 1) 0) by
        rw [List.replicate_succ', ← List.append_assoc]
        simp [bytesV, byteV]] at hs'
      have nu := new_u8 0
      refine S0 ?_
      refine CW_block (R2 @nu @happ ?_)
      refine JK [3] ?_
      exact ⟨_, Thin.refl _, 256 - s.length - (i + 1), ⟨i + 1, s', rfl, rfl, by omega, hs', hgr', hnew'⟩, by omega⟩
    · have hq := of_decide_eq_false hq
      obtain ⟨g, hg1, hg⟩ := hv.at (by rw [hl]; omega)
      rw [hl] at hg1
      cases hg1
      have hi2 : s.length + i = 256 := by omega
      have e2 : gToString Tryz.prog m'.get 74 9 (.slice (some ⟨g, 0, none⟩) (s.length + i) (s.length + i)) = some (.string (str (s ++ List.replicate i 0))) := to_str hg (by simp)
      rw [show s ++ List.replicate i 0 = filled s by unfold filled; congr 2; omega] at e2
      refine S0 ?_
      refine CW_seq (R1 @e2 ?_)
      refine T0 ?_
      first | exact ⟨_, Thin.refl _, rfl⟩ | exact ⟨_, Thin.refl _⟩ | exact ⟨_, Thin.refl _, rfl, rfl⟩
end Go.Proofs.YtkkleedpakcfgaaGreatDoor
namespace Go.Proofs.YtkkleedpakcfgaaGreatDoor
open Go.RowKit Abs
noncomputable def rsumG (ys : List Value) : Option Value := match ys with
  | [.string s] => bif Nat.ble s.size 1000000 then some (.string (str (Sha.sumF s.data.toList))) else none
  | _ => none
theorem rsumG_known (ys : List Value) (v : Value) (h : rsumG ys = some v) : Known Tryz.prog 246 ys v := by
  unfold rsumG at h
  split at h <;> first | (cases h; done) | skip
  rename_i s
  cases h1 : Nat.ble s.size 1000000 <;> rw [h1] at h <;> first | (cases h; done) | skip
  cases h
  have h1 := Nat.le_of_ble_eq_true h1
  rw [Sha.sumF_eq]
  exact fun m => rsum_at m s (by omega)
noncomputable def rtagG (ys : List Value) : Option Value := match ys with
  | [.string k, .string s] => bif Nat.ble k.size 1000000 then bif Nat.ble s.size 1000000 then some (.string (str (Sha.tagF k.data.toList s.data.toList))) else none else none
  | _ => none
theorem rtagG_known (ys : List Value) (v : Value) (h : rtagG ys = some v) : Known Tryz.prog 202 ys v := by
  unfold rtagG at h
  split at h <;> first | (cases h; done) | skip
  rename_i k s
  cases h1 : Nat.ble k.size 1000000 <;> rw [h1] at h <;> first | (cases h; done) | skip
  cases h2 : Nat.ble s.size 1000000 <;> rw [h2] at h <;> first | (cases h; done) | skip
  cases h
  have h1 := Nat.le_of_ble_eq_true h1
  have h2 := Nat.le_of_ble_eq_true h2
  rw [Sha.tagF_eq]
  exact fun m => rtag_at m k s (by omega) (by omega)
noncomputable def rfillG (ys : List Value) : Option Value := match ys with
  | [.string s] => bif Nat.ble s.size 256 then some (.string (str (filled s.data.toList))) else none
  | _ => none
theorem rfillG_known (ys : List Value) (v : Value) (h : rfillG ys = some v) : Known Tryz.prog 114 ys v := by
  unfold rfillG at h
  split at h <;> first | (cases h; done) | skip
  rename_i s
  cases h1 : Nat.ble s.size 256 <;> rw [h1] at h <;> first | (cases h; done) | skip
  cases h
  have h1 := Nat.le_of_ble_eq_true h1
  exact fun m => rfilled_at s.data.toList (by simpa using h1) m
noncomputable def rkeysG (ys : List Value) : Option Value := match ys with
  | [.string a, .string b] => bif Nat.ble a.size 1000 then bif Nat.ble b.size 1000 then some (keysF a.data.toList b.data.toList) else none else none
  | _ => none
theorem rkeysG_known (ys : List Value) (v : Value) (h : rkeysG ys = some v) : Known Tryz.prog 135 ys v := by
  unfold rkeysG at h
  split at h <;> first | (cases h; done) | skip
  rename_i k s
  cases h1 : Nat.ble k.size 1000 <;> rw [h1] at h <;> first | (cases h; done) | skip
  cases h2 : Nat.ble s.size 1000 <;> rw [h2] at h <;> first | (cases h; done) | skip
  cases h
  have h1 := Nat.le_of_ble_eq_true h1
  have h2 := Nat.le_of_ble_eq_true h2
  rw [keysF_eq]
  exact fun m => rkeys_at k.data.toList s.data.toList (by simp; omega) (by simp; omega) m
def xor3 (b1 b2 b3 l : List UInt8) : List UInt8 := List.zipWith (· ^^^ ·) (b1 ++ b2 ++ b3) l
set_option maxRecDepth 100000 in
theorem xor3_eq (key nonce l : List UInt8) (h : l.length = 192) : Cha.xorN key nonce 1 l l.length = xor3 (Cha.block key nonce 1) (Cha.block key nonce 2) (Cha.block key nonce 3) l := by
  have l1 := Cha.block_length key nonce 1
  have l2 := Cha.block_length key nonce 2
  have l3 := Cha.block_length key nonce 3
  refine List.ext_getElem (by simp [Cha.xorN, xor3, h, l1, l2, l3]) fun i h1 h2 => ?_
  have hi : i < 192 := by simpa [Cha.xorN, h] using h1
  simp only [Cha.xorN, xor3, List.getElem_map, List.getElem_range, List.getElem_zipWith, Cha.xorAt]
  have hl : l.getD i 0 = l[i]'(by omega) := by simp [List.getD, List.getElem?_eq_getElem (show i < l.length by omega)]
  rw [hl]
  congr 1
  rcases (show i / 64 = 0 ∨ i / 64 = 1 ∨ i / 64 = 2 by omega) with e | e | e <;> rw [e]
  · rw [List.getElem_append_left (by simp [l1, l2]; omega), List.getElem_append_left (by omega)]
    have : i % 64 = i := by omega
    simp only [this, List.getD, List.getElem?_eq_getElem (show i < (Cha.block key nonce 1).length by omega), Nat.add_zero, Option.getD_some]
  · rw [List.getElem_append_left (by simp [l1, l2]; omega), List.getElem_append_right (by omega)]
    simp only [List.getD, List.getElem?_eq_getElem (show i % 64 < (Cha.block key nonce 2).length by omega), Option.getD_some, l1]
    congr 1; omega
  · rw [List.getElem_append_right (by simp [l1, l2]; omega)]
    simp only [List.getD, List.getElem?_eq_getElem (show i % 64 < (Cha.block key nonce 3).length by omega), Option.getD_some, List.length_append, l1, l2]
    congr 1; omega
noncomputable def xorB3 (B : List UInt8 → List UInt8 → Nat → List UInt8) (ys : List Value) : Option Value := match ys with
  | [.string key, .string nonce, .int .i64 (.ofNat 1), .string s] => bif Nat.beq key.size 32 && (Nat.beq nonce.size 12 && Nat.beq s.size 192) then
      forceL forceB (B key.data.toList nonce.data.toList 1) fun b1 => forceL forceB (B key.data.toList nonce.data.toList 2) fun b2 => forceL forceB (B key.data.toList nonce.data.toList 3) fun b3 =>
      some (.tuple #[.string (str (xor3 b1 b2 b3 s.data.toList)), .int .i64 0]) else none
  | _ => none
theorem xorB3_known (B : List UInt8 → List UInt8 → Nat → List UInt8) (hB : ∀ k n c, Cha.block k n c = B k n c) (ys : List Value) (v : Value) (h : xorB3 B ys = some v) : Known Tryz.prog 233 ys v := by
  unfold xorB3 at h
  split at h <;> first | (cases h; done) | skip
  rename_i key nonce s
  obtain ⟨b, h1⟩ : ∃ b, (Nat.beq key.size 32 && (Nat.beq nonce.size 12 && Nat.beq s.size 192)) = b := ⟨_, rfl⟩
  rw [h1] at h
  cases b with
  | false => cases h
  | true =>
  simp only [cond_true] at h
  rw [forceL_eq forceB_eq, forceL_eq forceB_eq, forceL_eq forceB_eq] at h
  cases h
  simp only [Bool.and_eq_true] at h1
  obtain ⟨k1, k2, k3⟩ := h1
  have k1 := Nat.eq_of_beq_eq_true k1
  have k2 := Nat.eq_of_beq_eq_true k2
  have k3 := Nat.eq_of_beq_eq_true k3
  have hl : s.data.toList.length = 192 := by simpa using k3
  intro m
  have := xor_at key.data.toList nonce.data.toList s.data.toList 1 (by simpa using k1) (by simpa using k2) (by omega) (by omega) (by omega) m
  rw [xor3_eq _ _ _ hl, hB, hB, hB] at this
  exact this
noncomputable def xorG : List Value → Option Value := xorB3 Cha.block
theorem xorG_known : ∀ (ys : List Value) (v : Value), xorG ys = some v → Known Tryz.prog 233 ys v := xorB3_known Cha.block fun _ _ _ => rfl
noncomputable def rleafG (ys : List Value) : Option Value := match ys with
  | [.int .i64 (.ofNat n), .string a] => bif Nat.beq n 32 then bif Nat.ble a.size 1000000 then some (.string (str (Sha.sumF (0 :: a.data.toList)))) else none else none
  | _ => none
theorem rleafG_known (ys : List Value) (v : Value) (h : rleafG ys = some v) : Known Tryz.prog 234 ys v := by
  unfold rleafG at h
  split at h <;> first | (cases h; done) | skip
  rename_i n a
  cases h1 : Nat.beq n 32 <;> rw [h1] at h <;> first | (cases h; done) | skip
  cases h2 : Nat.ble a.size 1000000 <;> rw [h2] at h <;> first | (cases h; done) | skip
  cases h
  have h1 := Nat.eq_of_beq_eq_true h1
  have h2 := Nat.le_of_ble_eq_true h2
  subst h1
  rw [Sha.sumF_eq]
  exact fun m => rleaf_at a.data.toList (by simpa using h2) m
def rkeysTab : List (FuncId × List Value × Value) := [(135, [.string (str [115]), .string (str Ex.salt)], Ex.keys1), (135, [.string (str [115]), .string (str [])], Ex.keys2)]
theorem rkeysTab_known : ∀ e ∈ rkeysTab, Known Tryz.prog e.1 e.2.1 e.2.2 := by
  intro e he
  simp only [rkeysTab, List.mem_cons, List.not_mem_nil, or_false] at he
  rcases he with rfl | rfl
  · intro m; rw [← Ex.keys1_eq]; exact rkeys_at [115] Ex.salt (by decide) (by decide) m
  · intro m; rw [← Ex.keys2_eq]; exact rkeys_at [115] [] (by decide) (by decide) m
noncomputable def refT (T : Caller) : Caller := alsoT (tabT rkeysTab) <| flatT 234 rleafG <| flatT 114 rfillG (flatT 233 xorG (flatT 135 rkeysG (flatT 202 rtagG (flatT 246 rsumG T))))
theorem refT_good {T : Caller} (hT : Abs.Good Tryz.prog T) : Abs.Good Tryz.prog (refT T) := alsoT_good (tabT_good rkeysTab rkeysTab_known) (flatT_good (flatT_good (flatT_good (flatT_good (flatT_good (flatT_good hT rsumG_known) rtagG_known) rkeysG_known) xorG_known) rfillG_known) rleafG_known)
end Go.Proofs.YtkkleedpakcfgaaGreatDoor
namespace Go.Proofs.YtkkleedpakcfgaaGreatDoor
open Go.RowKit Abs
noncomputable def T30 : Caller := depT (refT noT)
theorem T30_good : Abs.Good Tryz.prog T30 := depT_good (refT_good noT_good)
end Go.Proofs.YtkkleedpakcfgaaGreatDoor
--LONG
/-
  Of a sender that is none there is nothing.
-/
namespace Go.Proofs.YtkkleedpakcfgaaGreatDoor
open Go.RowKit Abs
noncomputable def fst? (r : Option (Value × FMem)) : Option Value := match r with
  | some p => some p.1
  | none => none
theorem known_of_val {P : Program} (hmix : P.follows .mixedOrders = true) {T : Caller} (hT : Abs.Good P T) {L n : Nat} {k : FuncId} {xs : List Value} {v : Value} (hx : ∀ x ∈ xs, flat 3 x = true) (hv : flat 3 v = true)
    (h : fst? (fCall P T L n k xs m0) = some v) : Known P k xs v := fun m => by
  cases hc : fCall P T L n k xs m0 with
  | none => rw [hc] at h; cases h
  | some p =>
    obtain ⟨u, f'⟩ := p
    rw [hc] at h
    have hu : u = v := Option.some.inj h
    subst hu
    have hm : MR m0 ⟨[]⟩ := ⟨rfl, Nat.le_refl _, fun b x hb => by cases hb⟩
    obtain ⟨m', _, hs, _⟩ := fCall_good hmix hT L n _ _ _ _ _ hc ⟨[]⟩ hm
    exact Abs.Spec.of_empty hx hv (hs.mono fun u m h => h.1) m
end Go.Proofs.YtkkleedpakcfgaaGreatDoor
namespace Go.Proofs.YtkkleedpakcfgaaGreatDoor
open Go.RowKit Abs
structure BlankD (d : Dsk) (e : Int) : Prop where
  ok : d.Ok
  live : d.dead = false
  zeros : ∀ i, 1 ≤ i → i < d.old.length → d.sector i = List.replicate 256 0
  epoch : d.lastE 0 = (e, 0)
  pos : 0 ≤ e ∧ e ≤ 4294967295
theorem BlankD.may {d : Dsk} {e : Int} (h : BlankD d e) {i : Nat} (hi : i < d.old.length) : d.may (i : Int) = 0 := by
  unfold Dsk.may
  rw [if_neg (by rw [h.live]; simp), if_neg (by omega)]
end Go.Proofs.YtkkleedpakcfgaaGreatDoor
--LONG
/-
  tidy on a blank disk: nothing is found, there are no moves.
-/
namespace Go.Proofs.YtkkleedpakcfgaaGreatDoor
open Go.RowKit Abs
theorem BlankD.read {d : Dsk} {e : Int} (h : BlankD d e) {i : Nat} (h1 : 1 ≤ i) (hi : i < d.old.length) : d.read (i : Int) = (List.replicate 256 0, 0) := by
  unfold Dsk.read
  rw [h.may hi]
  simp only [Int.toNat_natCast, h.zeros i h1 hi]
  rfl
structure FoundAt (M M' : Mem) (p q g : Nat) (d : Dsk) (s1 s2 : Nat) : Prop where
  dsk : DskAt M' p q g d
  box : M'.get M.size = some (.cells false s1 [dp p])
  lst : M'.get (M.size + 2) = some (.cells false s2 [.slice none 0 0])
  old : Only [] M M'
  size : M.size + 3 ≤ M'.size
theorem FoundAt.more {M M' M2 : Mem} {p q g : Nat} {d : Dsk} {s1 s2 : Nat} (h : FoundAt M M' p q g d s1 s2) (ho : Only [] M' M2) (hs : M'.size ≤ M2.size) : FoundAt M M2 p q g d s1 s2 :=
  ⟨h.dsk.same fun b x hx => ho b x (by simp) hx, ho _ _ (by simp) h.box, ho _ _ (by simp) h.lst, h.old.trans ho, Nat.le_trans h.size hs⟩
set_option maxRecDepth 100000 in
set_option maxHeartbeats 8000000 in
theorem found_blank (M : Mem) (p q g : Nat) (d : Dsk) (e : Int) (hb : BlankD d e) (hd : DskAt M p q g d) (key : ByteArray) (hn : 13 ≤ d.old.length) :
    Abs.Spec Tryz.prog 20 [dp p, .string key] M fun u M' => u = .tuple #[.slice none 0 0, .int .i64 0] ∧ Only [] M M' ∧ M.size ≤ M'.size := by
  refine Abs.Spec.walkM Tryz.func20 (by rfl) _ Tryz.results20 _ Tryz.ntmps20 (by simp) ?_
  intro _ _ _
  have hal : nAlloc Tryz.prog 64 = some (.cells false (aStride Tryz.prog 64) zeroExt) := al_Ext
  have har : nAlloc Tryz.prog 129 = some (.cells false (aStride Tryz.prog 129) zeroRec) := al_Rec
  have bxd : nBox Tryz.prog 22 (dp p) = some (.cells false (aStride Tryz.prog 22) [dp p]) := by kernel_rfl
  have bxs : nBox Tryz.prog 9 (.string key) = some (.cells false (aStride Tryz.prog 9) [.string key]) := by kernel_rfl
  have all : nAlloc Tryz.prog 56 = some (.cells false (aStride Tryz.prog 56) [.slice none 0 0]) := al_Plcs
  generalize aStride Tryz.prog 64 = s3 at hal
  generalize aStride Tryz.prog 129 = s4 at har
  generalize aStride Tryz.prog 22 = s1 at bxd
  generalize aStride Tryz.prog 56 = s2 at all
  generalize aStride Tryz.prog 9 = s5 at bxs
  have q80 : ((8 : Int) != 0) = true := rfl
  have q00 : ((0 : Int) != 0) = false := rfl
  have q81 : ((8 : Int) == 0) = false := rfl
  have fin : ∀ {M' M2 : Mem}, FoundAt M M' p q g d s1 s2 → Only [] M' M2 → M'.size ≤ M2.size → ∀ (s : Nat) (cs cs' : List Value), FoundAt M ((M2.push (.cells false s cs)).set M2.size (some (.cells false s cs'))) p q g d s1 s2 := fun h ho hs s cs cs' =>
    h.more ((ho.trans (Only.push _ _ _)).setNew hs _) (by rw [Mem.size_set, Mem.size_push]; omega)
  refine CW_seq (CW_region ?_)
  simp only [zZ, reduceIte, Nat.reduceLT, Int.reduceToNat, Int.reduceLE, Int.reduceEq, Int.reduceLT, Nat.reduceEqDiff, Nat.reduceAdd, zDk, pd_eql, pd_neq, pd_eql0, pd_neq0, zPt, bxd, bxs]
  refine CW_seq (CW_region ?_)
  simp only [zZ, reduceIte, Nat.reduceLT, Int.reduceToNat, Int.reduceLE, Int.reduceEq, Int.reduceLT, Nat.reduceEqDiff, Nat.reduceAdd, zDk, pd_eql, pd_neq, pd_eql0, pd_neq0, zPt, all]
  refine CW_seq (CW_region ?_)
  simp only [zZ, reduceIte, Nat.reduceLT, Int.reduceToNat, Int.reduceLE, Int.reduceEq, Int.reduceLT, Nat.reduceEqDiff, Nat.reduceAdd, zDk, pd_eql, pd_neq, pd_eql0, pd_neq0, zPt, vFunc]
  obtain ⟨N, hN⟩ : ∃ N, N = ((M.push (.cells false s1 [dp p])).push (.cells false s5 [.string key])).push (.cells false s2 [.slice none 0 0]) := ⟨_, rfl⟩
  have hF : FoundAt M N p q g d s1 s2 := by
    have o1 : ∀ b x, M.get b = some x → N.get b = some x := fun b x hx => by
      have := get_live hx
      rw [hN, Mem.get_push_old (by simp only [Mem.size_push]; omega), Mem.get_push_old (by simp only [Mem.size_push]; omega), Mem.get_push_old this]; exact hx
    refine ⟨hd.same o1, ?_, ?_, fun b x _ hx => o1 b x hx, by rw [hN]; simp only [Mem.size_push]; omega⟩
    · rw [hN, Mem.get_push_old (by simp only [Mem.size_push]; omega), Mem.get_push_old (by simp only [Mem.size_push]; omega), Mem.get_push_new]
    · have := Mem.get_push_new ((M.push (.cells false s1 [dp p])).push (.cells false s5 [.string key])) (.cells false s2 [.slice none 0 0])
      simp only [Mem.size_push] at this
      rw [hN]; exact this
  simp only [Mem.size_push]
  rw [← hN]
  clear hN
  have hdp : dp p = .pointer (some ⟨p, 0, none⟩) := rfl
  have hput : ∀ (M2 : Mem), putIn 8 (M2.push (.cells false s3 zeroExt)) M2.size 0 zeroExt (some (.cells false s3 zeroExt)) = some ((M2.push (.cells false s3 zeroExt)).set M2.size (some (.cells false s3 zeroExt))) := fun M2 => putIn_whole _ _ rfl rfl rfl
  have hput2 : ∀ (M2 : Mem), putIn 13 (M2.push (.cells false s4 zeroRec)) M2.size 0 zeroRec (some (.cells false s4 zeroRec)) = some ((M2.push (.cells false s4 zeroRec)).set M2.size (some (.cells false s4 zeroRec))) := fun M2 => putIn_whole _ _ rfl rfl rfl
  refine MW_mid (fun f M' => f = [(2, .pointer (some ⟨M.size, 0, none⟩)), (6, .pointer (some ⟨M.size + 1 + 1, 0, none⟩))] ∧ FoundAt M M' p q g d s1 s2) ?_ ?_
  · refine CW_seq (CW_region ?_)
    simp only [zZ, reduceIte, Nat.reduceLT, Int.reduceToNat, Int.reduceLE, Int.reduceEq, Int.reduceLT, Nat.reduceEqDiff, Nat.reduceAdd, zDk, pd_eql, pd_neq, pd_eql0, pd_neq0, zPt]
    refine CW_block (MW_loop (fun j f M' => ∃ i : Nat, i ≤ 8 ∧ j = 8 - i ∧ f = [(2, .pointer (some ⟨M.size, 0, none⟩)), (6, .pointer (some ⟨M.size + 1 + 1, 0, none⟩)), (20, .int .i64 (i : Nat))] ∧ FoundAt M M' p q g d s1 s2) 8 ?_ ?_)
    · refine ⟨[2, 6, 20], ?_⟩
      simp only [zZ, reduceIte, Nat.reduceLT, Int.reduceToNat, Int.reduceLE, Int.reduceEq, Int.reduceLT, Nat.reduceEqDiff, Nat.reduceAdd, keepF]
      exact ⟨N, Thin.refl _, 0, by omega, rfl, rfl, hF⟩
    · rintro j f M' ⟨i, hi, rfl, rfl, hM'⟩
      refine CW_seq (CW_region ?_)
      simp only [zZ, reduceIte, Nat.reduceLT, Int.reduceToNat, Int.reduceLE, Int.reduceEq, Int.reduceLT, Nat.reduceEqDiff, Nat.reduceAdd, zDk, pd_eql, pd_neq, pd_eql0, pd_neq0, zPt]
      refine CW_seq (CW_cond (decide ((i : Int) < 8)) (by rfl) (fun h => CW_skip ?_) (fun h => CW_exit ?_))
      · have h := of_decide_eq_true h
        have w1 : IntKind.i64.wrap ((i : Int) + 1) = ((i + 1 : Nat) : Int) := by rw [wri (by omega) (by omega)]; omega
        have w5 : IntKind.i64.wrap (5 + (i : Int)) = ((5 + i : Nat) : Int) := by rw [wri (by omega) (by omega)]; omega
        simp only [zZ, reduceIte, Nat.reduceLT, Int.reduceToNat, Int.reduceLE, Int.reduceEq, Int.reduceLT, Nat.reduceEqDiff, Nat.reduceAdd]
        refine CW_seq (CW_block (CW_seq (CW_region ?_)))
        simp only [zZ, reduceIte, Nat.reduceLT, Int.reduceToNat, Int.reduceLE, Int.reduceEq, Int.reduceLT, Nat.reduceEqDiff, Nat.reduceAdd, zDk, pd_eql, pd_neq, pd_eql0, pd_neq0, zPt]
        refine CW_seq (CW_region ?_)
        simp only [zZ, reduceIte, Nat.reduceLT, Int.reduceToNat, Int.reduceLE, Int.reduceEq, Int.reduceLT, Nat.reduceEqDiff, Nat.reduceAdd, zDk, pd_eql, pd_neq, pd_eql0, pd_neq0, zPt, w5]
        refine CW_seq (CW_region ?_)
        simp only [zZ, reduceIte, Nat.reduceLT, Int.reduceToNat, Int.reduceLE, Int.reduceEq, Int.reduceLT, Nat.reduceEqDiff, Nat.reduceAdd, zDk, pd_eql, pd_neq, pd_eql0, pd_neq0, zPt, hM'.box]
        refine ⟨by kernel_rfl, _, read_spec M' p q g d hM'.dsk ((5 + i : Nat) : Int), ?_⟩
        rintro _ M9 ⟨rfl, e9⟩; replace e9 := e9.symm; subst e9
        rw [hb.read (by omega) (by omega)]
        simp only [zZ, reduceIte, Nat.reduceLT, Int.reduceToNat, Int.reduceLE, Int.reduceEq, Int.reduceLT, Nat.reduceEqDiff, Nat.reduceAdd, zDk, pd_eql, pd_neq, pd_eql0, pd_neq0, zPt]
        refine CW_seq (CW_seq (CW_region ?_))
        simp only [zZ, reduceIte, Nat.reduceLT, Int.reduceToNat, Int.reduceLE, Int.reduceEq, Int.reduceLT, Nat.reduceEqDiff, Nat.reduceAdd, zDk, pd_eql, pd_neq, pd_eql0, pd_neq0, zPt, q00]
        refine CW_cond false (by rfl) (fun h => by cases h) (fun _ => CW_skip ?_)
        simp only [zZ, reduceIte, Nat.reduceLT, Int.reduceToNat, Int.reduceLE, Int.reduceEq, Int.reduceLT, Nat.reduceEqDiff, Nat.reduceAdd]
        refine CW_seq (CW_region ?_)
        simp only [zZ, reduceIte, Nat.reduceLT, Int.reduceToNat, Int.reduceLE, Int.reduceEq, Int.reduceLT, Nat.reduceEqDiff, Nat.reduceAdd, zDk, pd_eql, pd_neq, pd_eql0, pd_neq0, zPt]
        refine ⟨by kernel_rfl, _, ctake_blank M' (List.replicate 256 0) List.length_replicate trim_zero, ?_⟩
        rintro _ M2 ⟨rfl, o2, z2⟩
        simp only [zZ, reduceIte, Nat.reduceLT, Int.reduceToNat, Int.reduceLE, Int.reduceEq, Int.reduceLT, Nat.reduceEqDiff, Nat.reduceAdd, zDk, pd_eql, pd_neq, pd_eql0, pd_neq0, zPt, hal, Mem.get_push_new, hput]
        refine CW_seq (CW_region ?_)
        simp only [zZ, reduceIte, Nat.reduceLT, Int.reduceToNat, Int.reduceLE, Int.reduceEq, Int.reduceLT, Nat.reduceEqDiff, Nat.reduceAdd, zDk, pd_eql, pd_neq, pd_eql0, pd_neq0, zPt, q81]
        refine CW_cond false (by rfl) (fun h => by cases h) (fun _ => CW_skip ?_)
        simp only [zZ, reduceIte, Nat.reduceLT, Int.reduceToNat, Int.reduceLE, Int.reduceEq, Int.reduceLT, Nat.reduceEqDiff, Nat.reduceAdd, zDk, pd_eql, pd_neq, pd_eql0, pd_neq0, zPt]
        refine CW_region ?_
        simp only [zZ, reduceIte, Nat.reduceLT, Int.reduceToNat, Int.reduceLE, Int.reduceEq, Int.reduceLT, Nat.reduceEqDiff, Nat.reduceAdd, zDk, pd_eql, pd_neq, pd_eql0, pd_neq0, zPt, w1]
        refine ⟨[2, 6, 20], ?_⟩
        simp only [zZ, reduceIte, Nat.reduceLT, Int.reduceToNat, Int.reduceLE, Int.reduceEq, Int.reduceLT, Nat.reduceEqDiff, Nat.reduceAdd, keepF]
        exact ⟨_, Thin.refl _, 8 - (i + 1), ⟨i + 1, by omega, rfl, rfl, fin hM' o2 z2 _ _ _⟩, by omega⟩
      · simp only [zZ, reduceIte, Nat.reduceLT, Int.reduceToNat, Int.reduceLE, Int.reduceEq, Int.reduceLT, Nat.reduceEqDiff, Nat.reduceAdd, zDk, pd_eql, pd_neq, pd_eql0, pd_neq0, zPt]
        refine ⟨[2, 6], ?_⟩
        simp only [zZ, reduceIte, Nat.reduceLT, Int.reduceToNat, Int.reduceLE, Int.reduceEq, Int.reduceLT, Nat.reduceEqDiff, Nat.reduceAdd, keepF]
        exact ⟨_, Thin.refl _, hM'⟩
  rintro f N2 ⟨rfl, hF2⟩
  refine MW_mid (fun f M' => f = [(6, .pointer (some ⟨M.size + 1 + 1, 0, none⟩))] ∧ FoundAt M M' p q g d s1 s2) ?_ ?_
  · refine CW_seq (CW_region ?_)
    simp only [zZ, reduceIte, Nat.reduceLT, Int.reduceToNat, Int.reduceLE, Int.reduceEq, Int.reduceLT, Nat.reduceEqDiff, Nat.reduceAdd, zDk, pd_eql, pd_neq, pd_eql0, pd_neq0, zPt]
    refine CW_block (MW_loop (fun j f M' => ∃ i : Nat, i ≤ 4 ∧ j = 4 - i ∧ f = [(2, .pointer (some ⟨M.size, 0, none⟩)), (6, .pointer (some ⟨M.size + 1 + 1, 0, none⟩)), (46, .int .i64 (i : Nat))] ∧ FoundAt M M' p q g d s1 s2) 4 ?_ ?_)
    · refine ⟨[2, 6, 46], ?_⟩
      simp only [zZ, reduceIte, Nat.reduceLT, Int.reduceToNat, Int.reduceLE, Int.reduceEq, Int.reduceLT, Nat.reduceEqDiff, Nat.reduceAdd, keepF]
      exact ⟨N2, Thin.refl _, 0, by omega, rfl, rfl, hF2⟩
    · rintro j f M' ⟨i, hi, rfl, rfl, hM'⟩
      refine CW_seq (CW_region ?_)
      simp only [zZ, reduceIte, Nat.reduceLT, Int.reduceToNat, Int.reduceLE, Int.reduceEq, Int.reduceLT, Nat.reduceEqDiff, Nat.reduceAdd, zDk, pd_eql, pd_neq, pd_eql0, pd_neq0, zPt]
      refine CW_seq (CW_cond (decide ((i : Int) < 4)) (by rfl) (fun h => CW_skip ?_) (fun h => CW_exit ?_))
      · have h := of_decide_eq_true h
        have w1 : IntKind.i64.wrap ((i : Int) + 1) = ((i + 1 : Nat) : Int) := by rw [wri (by omega) (by omega)]; omega
        have w5 : IntKind.i64.wrap (1 + (i : Int)) = ((1 + i : Nat) : Int) := by rw [wri (by omega) (by omega)]; omega
        simp only [zZ, reduceIte, Nat.reduceLT, Int.reduceToNat, Int.reduceLE, Int.reduceEq, Int.reduceLT, Nat.reduceEqDiff, Nat.reduceAdd]
        refine CW_seq (CW_block (CW_seq (CW_region ?_)))
        simp only [zZ, reduceIte, Nat.reduceLT, Int.reduceToNat, Int.reduceLE, Int.reduceEq, Int.reduceLT, Nat.reduceEqDiff, Nat.reduceAdd, zDk, pd_eql, pd_neq, pd_eql0, pd_neq0, zPt]
        refine CW_seq (CW_region ?_)
        simp only [zZ, reduceIte, Nat.reduceLT, Int.reduceToNat, Int.reduceLE, Int.reduceEq, Int.reduceLT, Nat.reduceEqDiff, Nat.reduceAdd, zDk, pd_eql, pd_neq, pd_eql0, pd_neq0, zPt, hM'.box, w5]
        refine ⟨by kernel_rfl, _, read_spec M' p q g d hM'.dsk ((1 + i : Nat) : Int), ?_⟩
        rintro _ M9 ⟨rfl, e9⟩; replace e9 := e9.symm; subst e9
        rw [hb.read (by omega) (by omega)]
        simp only [zZ, reduceIte, Nat.reduceLT, Int.reduceToNat, Int.reduceLE, Int.reduceEq, Int.reduceLT, Nat.reduceEqDiff, Nat.reduceAdd, zDk, pd_eql, pd_neq, pd_eql0, pd_neq0, zPt]
        refine CW_seq (CW_seq (CW_region ?_))
        simp only [zZ, reduceIte, Nat.reduceLT, Int.reduceToNat, Int.reduceLE, Int.reduceEq, Int.reduceLT, Nat.reduceEqDiff, Nat.reduceAdd, zDk, pd_eql, pd_neq, pd_eql0, pd_neq0, zPt, q00]
        refine CW_cond false (by rfl) (fun h => by cases h) (fun _ => CW_skip ?_)
        simp only [zZ, reduceIte, Nat.reduceLT, Int.reduceToNat, Int.reduceLE, Int.reduceEq, Int.reduceLT, Nat.reduceEqDiff, Nat.reduceAdd]
        refine CW_seq (CW_region ?_)
        simp only [zZ, reduceIte, Nat.reduceLT, Int.reduceToNat, Int.reduceLE, Int.reduceEq, Int.reduceLT, Nat.reduceEqDiff, Nat.reduceAdd, zDk, pd_eql, pd_neq, pd_eql0, pd_neq0, zPt]
        refine ⟨by kernel_rfl, _, jtake_blank M' (List.replicate 256 0) List.length_replicate trim_zero, ?_⟩
        rintro _ M2 ⟨rfl, o2, z2⟩
        simp only [zZ, reduceIte, Nat.reduceLT, Int.reduceToNat, Int.reduceLE, Int.reduceEq, Int.reduceLT, Nat.reduceEqDiff, Nat.reduceAdd, zDk, pd_eql, pd_neq, pd_eql0, pd_neq0, zPt, har, Mem.get_push_new, hput2]
        refine CW_seq (CW_region ?_)
        simp only [zZ, reduceIte, Nat.reduceLT, Int.reduceToNat, Int.reduceLE, Int.reduceEq, Int.reduceLT, Nat.reduceEqDiff, Nat.reduceAdd, zDk, pd_eql, pd_neq, pd_eql0, pd_neq0, zPt, q81]
        refine CW_cond false (by rfl) (fun h => by cases h) (fun _ => CW_skip ?_)
        simp only [zZ, reduceIte, Nat.reduceLT, Int.reduceToNat, Int.reduceLE, Int.reduceEq, Int.reduceLT, Nat.reduceEqDiff, Nat.reduceAdd, zDk, pd_eql, pd_neq, pd_eql0, pd_neq0, zPt]
        refine CW_region ?_
        simp only [zZ, reduceIte, Nat.reduceLT, Int.reduceToNat, Int.reduceLE, Int.reduceEq, Int.reduceLT, Nat.reduceEqDiff, Nat.reduceAdd, zDk, pd_eql, pd_neq, pd_eql0, pd_neq0, zPt, w1]
        refine ⟨[2, 6, 46], ?_⟩
        simp only [zZ, reduceIte, Nat.reduceLT, Int.reduceToNat, Int.reduceLE, Int.reduceEq, Int.reduceLT, Nat.reduceEqDiff, Nat.reduceAdd, keepF]
        exact ⟨_, Thin.refl _, 4 - (i + 1), ⟨i + 1, by omega, rfl, rfl, fin hM' o2 z2 _ _ _⟩, by omega⟩
      · simp only [zZ, reduceIte, Nat.reduceLT, Int.reduceToNat, Int.reduceLE, Int.reduceEq, Int.reduceLT, Nat.reduceEqDiff, Nat.reduceAdd, zDk, pd_eql, pd_neq, pd_eql0, pd_neq0, zPt]
        refine ⟨[6], ?_⟩
        simp only [zZ, reduceIte, Nat.reduceLT, Int.reduceToNat, Int.reduceLE, Int.reduceEq, Int.reduceLT, Nat.reduceEqDiff, Nat.reduceAdd, keepF]
        exact ⟨_, Thin.refl _, hM'⟩
  rintro f N3 ⟨rfl, hF3⟩
  refine CW_seq (CW_region ?_)
  simp only [zZ, reduceIte, Nat.reduceLT, Int.reduceToNat, Int.reduceLE, Int.reduceEq, Int.reduceLT, Nat.reduceEqDiff, Nat.reduceAdd, zDk, pd_eql, pd_neq, pd_eql0, pd_neq0, zPt, hF3.lst]
  refine CW_ret ?_
  simp only [zZ, reduceIte, Nat.reduceLT, Int.reduceToNat, Int.reduceLE, Int.reduceEq, Int.reduceLT, Nat.reduceEqDiff, Nat.reduceAdd, zDk, pd_eql, pd_neq, pd_eql0, pd_neq0, zPt, mEnd, sAnswer, sAnswer.sRes]
  exact ⟨N3, Thin.refl _, hF3.old, by have := hF3.size; omega⟩
def noPlace : Value := .agg (zeroExt ++ [Value.int .i64 0, Value.bool false]).toArray
def noMove : Value := .agg #[.int .i64 0, .int .i64 0, .int .i64 0]
theorem plan_nil (n : Int) : Known Tryz.prog 21 [.slice none 0 0, .int .i64 n] (.tuple #[noMove, noPlace, .bool false]) := known_of_val hmix noT_good (L := 10) (n := 15) (List.all_eq_true.1 rfl) rfl (by kernel_rfl)
theorem run_none (s : ByteArray) : Known Tryz.prog 6 [.pointer none, .string s] (.tuple #[.slice none 0 0, .int .i64 1]) := known_of_val hmix noT_good (L := 10) (n := 5) (List.all_eq_true.1 rfl) rfl (by kernel_rfl)
set_option maxRecDepth 100000 in
set_option maxHeartbeats 8000000 in
theorem run_blank (M : Mem) (p q g : Nat) (d : Dsk) (e : Int) (hb : BlankD d e) (hd : DskAt M p q g d) (s : ByteArray) (hs : s.size ≤ 1000000) :
    Abs.Spec Tryz.prog 6 [dp p, .string s] M fun u _ => u = .tuple #[.slice none 0 0, .int .i64 (if d.old.length < 13 then 1 else 0)] := by
  refine Abs.Spec.walkM Tryz.func6 (by rfl) _ Tryz.results6 _ Tryz.ntmps6 (by simp) ?_
  intro _ _ _
  have q00 : ((0 : Int) != 0) = false := rfl
  refine CW_seq (CW_region ?_)
  simp only [zZ, reduceIte, Nat.reduceLT, Int.reduceToNat, Int.reduceLE, Int.reduceEq, Int.reduceLT, Nat.reduceEqDiff, Nat.reduceAdd, zDk, pd_eql, pd_neq, pd_eql0, pd_neq0, zPt]
  refine CW_seq (CW_seq (CW_region ?_))
  simp only [zZ, reduceIte, Nat.reduceLT, Int.reduceToNat, Int.reduceLE, Int.reduceEq, Int.reduceLT, Nat.reduceEqDiff, Nat.reduceAdd, zDk, pd_eql, pd_neq, pd_eql0, pd_neq0, zPt]
  refine ⟨by kernel_rfl, _, dlen_spec M p q g d hd, ?_⟩
  rintro _ M9 ⟨rfl, e9⟩; replace e9 := e9.symm; subst e9
  simp only [zZ, reduceIte, Nat.reduceLT, Int.reduceToNat, Int.reduceLE, Int.reduceEq, Int.reduceLT, Nat.reduceEqDiff, Nat.reduceAdd, zDk, pd_eql, pd_neq, pd_eql0, pd_neq0, zPt]
  refine CW_cond (decide ((d.old.length : Int) < 13)) (by rfl) (fun h => CW_seq (CW_region ?_)) (fun h => CW_skip ?_)
  · have h := of_decide_eq_true h
    rw [if_pos (by omega)]
    simp only [zZ, reduceIte, Nat.reduceLT, Int.reduceToNat, Int.reduceLE, Int.reduceEq, Int.reduceLT, Nat.reduceEqDiff, Nat.reduceAdd, zDk, pd_eql, pd_neq, pd_eql0, pd_neq0, zPt]
    refine CW_ret ?_
    simp only [zZ, reduceIte, Nat.reduceLT, Int.reduceToNat, Int.reduceLE, Int.reduceEq, Int.reduceLT, Nat.reduceEqDiff, Nat.reduceAdd, zDk, pd_eql, pd_neq, pd_eql0, pd_neq0, zPt, mEnd, sAnswer, sAnswer.sRes]
    exact ⟨_, Thin.refl _⟩
  · have h := of_decide_eq_false h
    rw [if_neg (by omega)]
    simp only [zZ, reduceIte, Nat.reduceLT, Int.reduceToNat, Int.reduceLE, Int.reduceEq, Int.reduceLT, Nat.reduceEqDiff, Nat.reduceAdd, zDk, pd_eql, pd_neq, pd_eql0, pd_neq0, zPt]
    refine CW_seq (CW_region ?_)
    simp only [zZ, reduceIte, Nat.reduceLT, Int.reduceToNat, Int.reduceLE, Int.reduceEq, Int.reduceLT, Nat.reduceEqDiff, Nat.reduceAdd, zDk, pd_eql, pd_neq, pd_eql0, pd_neq0, zPt]
    refine CW_seq (CW_region ?_)
    simp only [zZ, reduceIte, Nat.reduceLT, Int.reduceToNat, Int.reduceLE, Int.reduceEq, Int.reduceLT, Nat.reduceEqDiff, Nat.reduceAdd, zDk, pd_eql, pd_neq, pd_eql0, pd_neq0, zPt]
    refine ⟨by kernel_rfl, _, keys_spec s ⟨#[]⟩ (by omega) (by decide) _, ?_⟩
    rintro _ M9 ⟨rfl, e9⟩; replace e9 := e9.symm; subst e9
    obtain ⟨ka, kb, kc, hk⟩ : ∃ ka kb kc, keysV s.data.toList (ByteArray.mk #[]).data.toList = .agg #[.string ka, .string kb, .string kc] := ⟨_, _, _, rfl⟩
    rw [hk]
    have vf : vField Tryz.prog 54 (some (.agg #[.string ka, .string kb, .string kc])) 2 = some (.string kc) := by kernel_rfl
    simp only [zZ, reduceIte, Nat.reduceLT, Int.reduceToNat, Int.reduceLE, Int.reduceEq, Int.reduceLT, Nat.reduceEqDiff, Nat.reduceAdd, zDk, pd_eql, pd_neq, pd_eql0, pd_neq0, zPt, vf]
    refine CW_block (MW_loop (fun j f M' => j = 1 ∧ f = [(0, dp p), (6, .slice none 0 0), (7, .string kc)] ∧ M' = M) 1 ?_ ?_)
    · refine ⟨[0, 6, 7], ?_⟩
      simp only [zZ, reduceIte, Nat.reduceLT, Int.reduceToNat, Int.reduceLE, Int.reduceEq, Int.reduceLT, Nat.reduceEqDiff, Nat.reduceAdd, keepF]
      exact ⟨M, Thin.refl _, rfl⟩
    · rintro j f M' ⟨rfl, rfl, e9⟩; subst e9
      refine CW_block (CW_seq (CW_region ?_))
      simp only [zZ, reduceIte, Nat.reduceLT, Int.reduceToNat, Int.reduceLE, Int.reduceEq, Int.reduceLT, Nat.reduceEqDiff, Nat.reduceAdd, zDk, pd_eql, pd_neq, pd_eql0, pd_neq0, zPt]
      refine ⟨by kernel_rfl, _, found_blank M' p q g d e hb hd kc (by omega), ?_⟩
      rintro _ M2 ⟨rfl, o2, z2⟩
      simp only [zZ, reduceIte, Nat.reduceLT, Int.reduceToNat, Int.reduceLE, Int.reduceEq, Int.reduceLT, Nat.reduceEqDiff, Nat.reduceAdd, zDk, pd_eql, pd_neq, pd_eql0, pd_neq0, zPt]
      refine CW_seq (CW_seq (CW_region ?_))
      simp only [zZ, reduceIte, Nat.reduceLT, Int.reduceToNat, Int.reduceLE, Int.reduceEq, Int.reduceLT, Nat.reduceEqDiff, Nat.reduceAdd, zDk, pd_eql, pd_neq, pd_eql0, pd_neq0, zPt, q00]
      refine CW_cond false (by rfl) (fun h => by cases h) (fun _ => CW_skip ?_)
      simp only [zZ, reduceIte, Nat.reduceLT, Int.reduceToNat, Int.reduceLE, Int.reduceEq, Int.reduceLT, Nat.reduceEqDiff, Nat.reduceAdd, zDk, pd_eql, pd_neq, pd_eql0, pd_neq0, zPt]
      refine CW_seq (CW_region ?_)
      simp only [zZ, reduceIte, Nat.reduceLT, Int.reduceToNat, Int.reduceLE, Int.reduceEq, Int.reduceLT, Nat.reduceEqDiff, Nat.reduceAdd, zDk, pd_eql, pd_neq, pd_eql0, pd_neq0, zPt]
      have hd2 : DskAt M2 p q g d := hd.same fun b x hx => o2 b x (by simp) hx
      refine ⟨by kernel_rfl, _, dlen_spec M2 p q g d hd2, ?_⟩
      rintro _ M9 ⟨rfl, e9⟩; replace e9 := e9.symm; subst e9
      simp only [zZ, reduceIte, Nat.reduceLT, Int.reduceToNat, Int.reduceLE, Int.reduceEq, Int.reduceLT, Nat.reduceEqDiff, Nat.reduceAdd, zDk, pd_eql, pd_neq, pd_eql0, pd_neq0, zPt]
      refine ⟨by kernel_rfl, _, plan_nil _ _, ?_⟩
      rintro _ M9 ⟨rfl, e9⟩; replace e9 := e9.symm; subst e9
      simp only [zZ, reduceIte, Nat.reduceLT, Int.reduceToNat, Int.reduceLE, Int.reduceEq, Int.reduceLT, Nat.reduceEqDiff, Nat.reduceAdd, zDk, pd_eql, pd_neq, pd_eql0, pd_neq0, zPt]
      generalize aStride Tryz.prog 60 = s6
      generalize aStride Tryz.prog 66 = s7
      have p1 : ∀ (X : Mem) (b : Nat), putIn 3 X b 0 noMove.cells.toList (some (.cells false s6 [.int .i64 0, .int .i64 0, .int .i64 0])) = some (X.set b (some (.cells false s6 [.int .i64 0, .int .i64 0, .int .i64 0]))) := fun X b => putIn_whole X b rfl rfl rfl
      have p2 : ∀ (X : Mem) (b : Nat), putIn 10 X b 0 noPlace.cells.toList (some (.cells false s7 (zeroExt ++ [.int .i64 0, .bool false]))) = some (X.set b (some (.cells false s7 (zeroExt ++ [.int .i64 0, .bool false])))) := fun X b => putIn_whole X b rfl rfl rfl
      obtain ⟨B, hB⟩ : ∃ B, B = (M2.push (.cells false s6 [.int .i64 0, .int .i64 0, .int .i64 0])).push (.cells false s7 (zeroExt ++ [.int .i64 0, .bool false])) := ⟨_, rfl⟩
      have b1 : B.get M2.size = some (.cells false s6 [.int .i64 0, .int .i64 0, .int .i64 0]) := by rw [hB, Mem.get_push_old (by rw [Mem.size_push]; omega), Mem.get_push_new]
      have b2 : B.get (M2.size + 1) = some (.cells false s7 (zeroExt ++ [.int .i64 0, .bool false])) := by
        have := Mem.get_push_new (M2.push (.cells false s6 [.int .i64 0, .int .i64 0, .int .i64 0])) (.cells false s7 (zeroExt ++ [.int .i64 0, .bool false]))
        rw [Mem.size_push] at this
        rw [hB]; exact this
      simp only [zeroExt, List.cons_append, List.nil_append] at hB b2 p2
      have b3 : ∀ x, (B.set M2.size x).get (M2.size + 1) = B.get (M2.size + 1) := fun x => Mem.get_set_ne (by omega) x
      rw [← hB]
      simp only [zZ, reduceIte, Nat.reduceLT, Int.reduceToNat, Int.reduceLE, Int.reduceEq, Int.reduceLT, Nat.reduceEqDiff, Nat.reduceAdd, zDk, pd_eql, pd_neq, pd_eql0, pd_neq0, zPt, b1, p1, Mem.size_push, b3, b2, p2]
      refine CW_seq (CW_seq (CW_region ?_))
      simp only [zZ, reduceIte, Nat.reduceLT, Int.reduceToNat, Int.reduceLE, Int.reduceEq, Int.reduceLT, Nat.reduceEqDiff, Nat.reduceAdd, zDk, pd_eql, pd_neq, pd_eql0, pd_neq0, zPt]
      refine CW_cond true (by rfl) (fun _ => CW_seq (CW_region ?_)) (fun h => by cases h)
      simp only [zZ, reduceIte, Nat.reduceLT, Int.reduceToNat, Int.reduceLE, Int.reduceEq, Int.reduceLT, Nat.reduceEqDiff, Nat.reduceAdd, zDk, pd_eql, pd_neq, pd_eql0, pd_neq0, zPt]
      refine CW_ret ?_
      simp only [zZ, reduceIte, Nat.reduceLT, Int.reduceToNat, Int.reduceLE, Int.reduceEq, Int.reduceLT, Nat.reduceEqDiff, Nat.reduceAdd, zDk, pd_eql, pd_neq, pd_eql0, pd_neq0, zPt, mEnd, sAnswer, sAnswer.sRes]
      exact ⟨_, Thin.refl _⟩
end Go.Proofs.YtkkleedpakcfgaaGreatDoor
namespace Go.Proofs.YtkkleedpakcfgaaGreatDoor
open Go.RowKit Abs
set_option maxRecDepth 100000 in
theorem awake42_spec : Known Tryz.prog 7 [] (.bool true) := known_of_run (xs := []) (v := .bool true) hmix T30_good (L := 100000) (n := 60) (fun x hx => by cases hx) rfl (by kernel_rfl)
end Go.Proofs.YtkkleedpakcfgaaGreatDoor
namespace Go.Proofs.YtkkleedpakcfgaaGreatDoor
open Go.RowKit Abs
theorem zero_sector (n i : Nat) (hi : i < n) : (newDsk n).sector i = zeroS := by
  unfold Dsk.sector newDsk
  simp only [lastOf, List.find?_nil, Option.map_none, Option.getD_none, List.getElem?_replicate, if_pos hi, Option.getD_some]
theorem last_zero : lastV zeroS = (0, 0) := by decide +kernel
theorem newDsk_blank (n : Nat) (h1 : 1 ≤ n) (h2 : n ≤ 1024) : BlankD (newDsk n) 0 := by
  have hlen : (newDsk n).old.length = n := by simp [newDsk]
  refine ⟨newDsk_ok n h1 h2, rfl, fun i _ hi => zero_sector n i (by omega), ?_, by decide⟩
  have hm : (newDsk n).may 0 = 0 := by
    unfold Dsk.may
    rw [if_neg (by simp [newDsk]), if_neg (by omega)]
  unfold Dsk.lastE
  rw [if_pos hm, zero_sector n _ (by show 0 < n; omega), last_zero]
theorem i64_and31 (n : Int) : bits .and .i64 n 31 = n % 32 := by
  have h127 : (BitVec.ofInt 64 31).toNat = 2 ^ 5 - 1 := by decide
  have key : (BitVec.ofInt 64 n &&& BitVec.ofInt 64 31).toNat = (n % ((2 ^ 64 : Nat) : Int)).toNat % 2 ^ 5 := by
    rw [BitVec.toNat_and, BitVec.toNat_ofInt, h127, Nat.and_two_pow_sub_one_eq_mod]
  show IntKind.i64.wrap ((BitVec.ofInt 64 n &&& BitVec.ofInt 64 31).toNat : Nat) = n % 32
  rw [key, IntKind.wrap_i64]
  omega
end Go.Proofs.YtkkleedpakcfgaaGreatDoor
--LONG
/-
  The law of chapter 42: what is too small, or blank, has no moves.
-/
namespace Go.Proofs.YtkkleedpakcfgaaGreatDoor
open Go.RowKit Abs
theorem bool_same (cx b : Bool) : aBin Tryz.prog .eql 4 cx (.bool b) (.bool b) = some (.bool true) := by cases cx <;> cases b <;> kernel_rfl
set_option maxRecDepth 100000 in
set_option maxHeartbeats 8000000 in
theorem law_tidy (n : Int) (s : ByteArray) (M : Mem) : Abs.Spec Tryz.prog 3 [.int .i64 n, .string s] M fun u _ => u = .bool true := by
  refine Abs.Spec.walkM Tryz.func3 (by rfl) _ Tryz.results3 _ Tryz.ntmps3 (by simp) ?_
  intro _ _ _
  have q00 : ((0 : Int) != 0) = false := rfl
  have q01 : ((0 : Int) == 0) = true := rfl
  have q02 : (((0 : Nat) : Int) != 0) = false := rfl
  have q11 : ((1 : Int) == 1) = true := rfl
  have q10 : ((1 : Int) == 0) = false := rfl
  have q12 : ((1 : Int) != 1) = false := rfl
  have qff : ((some false : Option Bool) == some false) = true := rfl
  have qtt : ((some true : Option Bool) == some true) = true := rfl
  refine CW_seq (CW_region ?_)
  simp only [zZ, reduceIte, Nat.reduceLT, Int.reduceToNat, Int.reduceLE, Int.reduceEq, Int.reduceLT, Nat.reduceEqDiff, Nat.reduceAdd, zDk, pd_eql, pd_neq, pd_eql0, pd_neq0, zPt]
  refine MW_mid (fun f M' => ∃ t : ByteArray, t.size ≤ 100 ∧ f = [(0, .int .i64 n), (1, .string t)] ∧ M' = M) ?_ ?_
  · refine CW_seq (CW_region ?_)
    simp only [zZ, reduceIte, Nat.reduceLT, Int.reduceToNat, Int.reduceLE, Int.reduceEq, Int.reduceLT, Nat.reduceEqDiff, Nat.reduceAdd, zDk, pd_eql, pd_neq, pd_eql0, pd_neq0, zPt]
    refine CW_cond (decide ((100 : Int) < (s.size : Int))) (by rfl) (fun h => CW_region ?_) (fun h => CW_skip ?_)
    · have h := of_decide_eq_true h
      have hsl : ∀ get, gSlice Tryz.prog get 9 (.string s) none (some (.int .i64 100)) = some (.string (str (s.data.toList.take 100))) := fun get => slice_to get s 100 (by omega)
      simp only [zZ, reduceIte, Nat.reduceLT, Int.reduceToNat, Int.reduceLE, Int.reduceEq, Int.reduceLT, Nat.reduceEqDiff, Nat.reduceAdd, zDk, pd_eql, pd_neq, pd_eql0, pd_neq0, zPt, hsl]
      refine ⟨[0, 1], ?_⟩
      simp only [zZ, reduceIte, Nat.reduceLT, Int.reduceToNat, Int.reduceLE, Int.reduceEq, Int.reduceLT, Nat.reduceEqDiff, Nat.reduceAdd, keepF]
      exact ⟨M, Thin.refl _, str (s.data.toList.take 100), by show (s.data.toList.take 100).length ≤ 100; rw [List.length_take]; omega, rfl, rfl⟩
    · have h := of_decide_eq_false h
      refine ⟨[0, 1], ?_⟩
      simp only [zZ, reduceIte, Nat.reduceLT, Int.reduceToNat, Int.reduceLE, Int.reduceEq, Int.reduceLT, Nat.reduceEqDiff, Nat.reduceAdd, keepF]
      exact ⟨M, Thin.refl _, s, by omega, rfl, rfl⟩
  rintro _ M9 ⟨t, ht, rfl, e9⟩; replace e9 := e9.symm; subst e9
  obtain ⟨N, hN1, hN2, hN⟩ : ∃ N : Nat, 1 ≤ N ∧ N ≤ 32 ∧ IntKind.i64.wrap (1 + bits BinOp.and IntKind.i64 n 31) = ((N : Nat) : Int) := by
    refine ⟨(n % 32).toNat + 1, by omega, by omega, ?_⟩
    rw [i64_and31, wri (by omega) (by omega)]
    omega
  refine CW_seq (CW_region ?_)
  simp only [zZ, reduceIte, Nat.reduceLT, Int.reduceToNat, Int.reduceLE, Int.reduceEq, Int.reduceLT, Nat.reduceEqDiff, Nat.reduceAdd, zDk, pd_eql, pd_neq, pd_eql0, pd_neq0, zPt, hN]
  refine CW_seq (CW_region ?_)
  simp only [zZ, reduceIte, Nat.reduceLT, Int.reduceToNat, Int.reduceLE, Int.reduceEq, Int.reduceLT, Nat.reduceEqDiff, Nat.reduceAdd, zDk, pd_eql, pd_neq, pd_eql0, pd_neq0, zPt]
  refine ⟨by kernel_rfl, _, new_spec M N hN1 (by omega), ?_⟩
  rintro _ M1 ⟨p, q, g, rfl, hd1, hp, hq, hg, ho1, hs1⟩
  have hlen : (newDsk N).old.length = N := by simp [newDsk]
  simp only [zZ, reduceIte, Nat.reduceLT, Int.reduceToNat, Int.reduceLE, Int.reduceEq, Int.reduceLT, Nat.reduceEqDiff, Nat.reduceAdd, zDk, pd_eql, pd_neq, pd_eql0, pd_neq0, zPt, dp]
  refine CW_seq (CW_seq (CW_region ?_))
  simp only [zZ, reduceIte, Nat.reduceLT, Int.reduceToNat, Int.reduceLE, Int.reduceEq, Int.reduceLT, Nat.reduceEqDiff, Nat.reduceAdd, zDk, pd_eql, pd_neq, pd_eql0, pd_neq0, zPt, q00]
  refine CW_cond false (by rfl) (fun h => by cases h) (fun _ => CW_skip ?_)
  simp only [zZ, reduceIte, Nat.reduceLT, Int.reduceToNat, Int.reduceLE, Int.reduceEq, Int.reduceLT, Nat.reduceEqDiff, Nat.reduceAdd, zDk, pd_eql, pd_neq, pd_eql0, pd_neq0, zPt]
  refine CW_seq (CW_region ?_)
  simp only [zZ, reduceIte, Nat.reduceLT, Int.reduceToNat, Int.reduceLE, Int.reduceEq, Int.reduceLT, Nat.reduceEqDiff, Nat.reduceAdd, zDk, pd_eql, pd_neq, pd_eql0, pd_neq0, zPt]
  refine ⟨by kernel_rfl, _, run_blank M1 p q g (newDsk N) 0 (newDsk_blank N hN1 (by omega)) hd1 t (by omega), ?_⟩
  rintro _ M2 rfl
  rw [hlen]
  obtain ⟨z, hz⟩ : ∃ z : Int, z = if N < 13 then 1 else 0 := ⟨_, rfl⟩
  rw [← hz]
  simp only [zZ, reduceIte, Nat.reduceLT, Int.reduceToNat, Int.reduceLE, Int.reduceEq, Int.reduceLT, Nat.reduceEqDiff, Nat.reduceAdd, zDk, pd_eql, pd_neq, pd_eql0, pd_neq0, zPt]
  refine CW_seq (CW_region ?_)
  simp only [zZ, reduceIte, Nat.reduceLT, Int.reduceToNat, Int.reduceLE, Int.reduceEq, Int.reduceLT, Nat.reduceEqDiff, Nat.reduceAdd, zDk, pd_eql, pd_neq, pd_eql0, pd_neq0, zPt]
  refine ⟨by kernel_rfl, _, run_none t _, ?_⟩
  rintro _ M9 ⟨rfl, e9⟩; replace e9 := e9.symm; subst e9
  simp only [zZ, reduceIte, Nat.reduceLT, Int.reduceToNat, Int.reduceLE, Int.reduceEq, Int.reduceLT, Nat.reduceEqDiff, Nat.reduceAdd, zDk, pd_eql, pd_neq, pd_eql0, pd_neq0, zPt]
  refine CW_seq (CW_seq (CW_region ?_))
  simp only [zZ, reduceIte, Nat.reduceLT, Int.reduceToNat, Int.reduceLE, Int.reduceEq, Int.reduceLT, Nat.reduceEqDiff, Nat.reduceAdd, zDk, pd_eql, pd_neq, pd_eql0, pd_neq0, zPt, Tryz.underlying26, q02, qff, q12]
  refine CW_cond false (by rfl) (fun h => by cases h) (fun _ => CW_skip ?_)
  simp only [zZ, reduceIte, Nat.reduceLT, Int.reduceToNat, Int.reduceLE, Int.reduceEq, Int.reduceLT, Nat.reduceEqDiff, Nat.reduceAdd, zDk, pd_eql, pd_neq, pd_eql0, pd_neq0, zPt]
  obtain ⟨b, e1, e2, e3, e4⟩ : ∃ b : Bool, (z == 1) = b ∧ (z == 0) = (!b) ∧ decide ((N : Int) < 13) = b ∧ decide ((13 : Int) ≤ (N : Int)) = !b := by
    by_cases h : N < 13
    · rw [hz, if_pos h]; exact ⟨true, rfl, rfl, decide_eq_true (by omega), decide_eq_false (by omega)⟩
    · rw [hz, if_neg h]; exact ⟨false, rfl, rfl, decide_eq_false (by omega), decide_eq_true (by omega)⟩
  refine CW_seq (CW_region ?_)
  simp only [zZ, reduceIte, Nat.reduceLT, Int.reduceToNat, Int.reduceLE, Int.reduceEq, Int.reduceLT, Nat.reduceEqDiff, Nat.reduceAdd, zDk, pd_eql, pd_neq, pd_eql0, pd_neq0, zPt, e1, e2, e3, e4, bool_same, qtt]
  refine ⟨by kernel_rfl, _, awake42_spec M2, ?_⟩
  rintro _ M9 ⟨rfl, e9⟩; replace e9 := e9.symm; subst e9
  simp only [zZ, reduceIte, Nat.reduceLT, Int.reduceToNat, Int.reduceLE, Int.reduceEq, Int.reduceLT, Nat.reduceEqDiff, Nat.reduceAdd, zDk, pd_eql, pd_neq, pd_eql0, pd_neq0, zPt]
  refine CW_ret ?_
  simp only [zZ, reduceIte, Nat.reduceLT, Int.reduceToNat, Int.reduceLE, Int.reduceEq, Int.reduceLT, Nat.reduceEqDiff, Nat.reduceAdd, zDk, pd_eql, pd_neq, pd_eql0, pd_neq0, zPt, mEnd, sAnswer, sAnswer.sRes]
  exact ⟨_, Thin.refl _⟩
end Go.Proofs.YtkkleedpakcfgaaGreatDoor
