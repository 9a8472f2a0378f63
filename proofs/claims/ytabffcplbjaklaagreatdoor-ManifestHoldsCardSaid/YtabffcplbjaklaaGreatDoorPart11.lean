/-
  A line of a manifest, as words; numbers and digits, read.
  The library's contract for what stands ahead of a text, for the abstract machine.
  A manifest's text, as lines.
  The library's ParseUint, of two digits to the base 16: walked.
  The walk of manifest.unhex, over digits that were written.
  The walk of manifest.read, over a line that was written.
  strings.Builder: its contracts in an abstract memory. (A builder's variable and its buffer are marked: their types are told.)
  A builder's text, asked twice.
  mac.Tag's contract, for the abstract machine.
  The walk of manifest.Put.
  The walk of manifest.Take, over a text that was put.
  Headers, compared; the walk of the law's same.
  The walk of chapter 46's waking.
  Headers of one's own, cut and joined.
  The walk of the reference's Sort.
  The walk of the reference's Line.
  Appending to what '[]byte(s)' made: a block whose frozen stretch lies behind its end.
  The walks of the document's answer for layer 2: turned words.
-/
import Derived.Test.YtabffcplbjaklaaGreatDoorPart10
import Derived.Lib.AtoiTie
import Derived.Lib.AtoiErrMem
import Derived.Lib.Strings
import Derived.Test.YtabffcplbjaklaaGreatDoorPart08
import Derived.Test.YtabffcplbjaklaaGreatDoorPart09
import Derived.Lib.Builder
import Derived.Lib.UnsafeStr
import Derived.WalkKit
import Derived.Test.YtabffcplbjaklaaGreatDoorPart05
import Derived.Test.YtabffcplbjaklaaGreatDoorPart01
import Derived.Test.YtabffcplbjaklaaGreatDoorPart02
import Derived.Lib.FrozenHead2
import Derived.Laws.IdiomStrings
import Derived.Deep.QuietTactic
import Derived.BigQuiet
set_option linter.unusedSimpArgs false
set_option linter.unusedVariables false
set_option linter.unusedSectionVars false
set_option linter.unnecessarySimpa false
set_option linter.defProp false
namespace Go.Proofs.YtabffcplbjaklaaGreatDoor
open Go.RowKit Abs
theorem digit_free : ∀ d : Fin 16, digit d.val ≠ 10 ∧ digit d.val ≠ 32 := by decide
theorem hexL_free (l : List UInt8) (c : UInt8) (hc : c = 10 ∨ c = 32) : c ∉ hexL l := by
  intro h
  unfold hexL at h
  rw [List.mem_flatMap] at h
  obtain ⟨b, _, hb⟩ := h
  have h1 := digit_free ⟨b.toNat / 16, by have := b.toNat_lt; omega⟩
  have h2 := digit_free ⟨b.toNat % 16, by omega⟩
  simp only [List.mem_cons, List.not_mem_nil, or_false] at hb
  rcases hb with rfl | rfl
  · rcases hc with e | e
    · exact h1.1 e
    · exact h1.2 e
  · rcases hc with e | e
    · exact h2.1 e
    · exact h2.2 e
theorem hexV_free (l : List UInt8) (c : UInt8) (hc : c = 10 ∨ c = 32) : c ∉ hexV l := by
  unfold hexV
  split
  · rcases hc with rfl | rfl <;> decide
  · exact hexL_free l c hc
theorem words_free (h : Header) (c : UInt8) (hc : c = 10 ∨ c = 32) : ∀ w ∈ lineWords h, c ∉ w := by
  intro w hw
  unfold lineWords at hw
  simp only [List.mem_cons, List.not_mem_nil, or_false] at hw
  rcases hw with rfl | rfl | rfl | rfl | rfl | rfl | rfl
  · exact itoa_free _ _ hc
  · exact itoa_free _ _ hc
  · exact itoa_free _ _ hc
  · exact itoa_free _ _ hc
  · exact hexV_free _ _ hc
  · exact hexV_free _ _ hc
  · exact hexV_free _ _ hc
theorem mem_join (c : UInt8) (sep : List UInt8) : ∀ (ws : List (List UInt8)), c ∈ Lib.join ws sep → (∃ w ∈ ws, c ∈ w) ∨ c ∈ sep
  | [], h => by simp [Lib.join] at h
  | [w], h => by rw [join_one] at h; exact .inl ⟨w, by simp, h⟩
  | w :: v :: r, h => by
    rw [join_cons2] at h
    rcases List.mem_append.1 h with h | h
    · rcases List.mem_append.1 h with h | h
      · exact .inl ⟨w, by simp, h⟩
      · exact .inr h
    · rcases mem_join c sep (v :: r) h with ⟨x, hx, hc⟩ | h
      · exact .inl ⟨x, by simp [hx], hc⟩
      · exact .inr h
theorem line_free (h : Header) : 10 ∉ lineV h := by
  intro hm
  unfold lineV at hm
  rcases mem_join _ _ _ hm with ⟨w, hw, hc⟩ | hc
  · exact words_free h 10 (.inl rfl) w hw hc
  · revert hc; decide
theorem itoa_short (v : Int) (h0 : 0 ≤ v) (h1 : v ≤ 9999999999) : (Lib.itoa v).length ≤ 18 := by
  unfold Lib.itoa
  rw [if_neg (by omega)]
  rcases pow_digits v.toNat with h | h
  · apply Decidable.byContradiction
    intro h2
    have h3 : 10 ^ 18 ≤ 10 ^ ((Lib.decDigits v.toNat).length - 1) := Nat.pow_le_pow_right (by decide) (by omega)
    have : (10 : Nat) ^ 18 = 1000000000000000000 := by decide
    omega
  · rw [h]; decide +kernel
theorem atoi_back (v : Int) (h0 : 0 ≤ v) (h1 : v ≤ 9999999999) : Lib.atoi (Lib.itoa v) = some v := by
  have h := atoi_itoa v (by omega) (by omega)
  rw [Lib.atoiAll_short _ (itoa_short v h0 h1)] at h
  cases hh : Lib.atoi (Lib.itoa v) with
  | none => rw [hh] at h; cases h
  | some x => rw [hh] at h; cases h; rfl
theorem matoi_spec (v : Int) (h0 : 0 ≤ v) (h1 : v ≤ 9999999999) (m : Mem) : Abs.Spec Tryz.prog 61 [.string (str (Lib.itoa v))] m fun u M => u = .tuple #[.int .i64 v, .nilIface] ∧ M = m :=
  Abs.Spec.of_flat (by simp [flat]) rfl fun w => by
    refine (Tryz.strconv_Atoi (str (Lib.itoa v)) v (by show (Lib.itoa v).length ≤ 18; exact itoa_short v h0 h1) (atoi_back v h0 h1) w).mono ?_
    rintro e w' ⟨rfl, t, rfl⟩
    exact ⟨rfl, Lib.bytesWorld_below _ _ _⟩
def wC (ws : List (List UInt8)) : List Value := ws.map fun p => .string (str p)
theorem msplit_spec (ws : List (List UInt8)) (c : UInt8) (h0 : ws ≠ []) (hf : ∀ w ∈ ws, c ∉ w) (hl : (Lib.join ws [c]).length ≤ 100000000) (m : Mem) :
    Abs.Spec Tryz.prog 27 [.string (str (Lib.join ws [c])), .string (str [c])] m fun u M => u = .slice (some ⟨m.size, 0, none⟩) ws.length ws.length ∧ M = ext m [some (some (.cells false 1 (wC ws)))] := by
  have h := split_spec (str (Lib.join ws [c])) c (by rw [str_size]; omega) m
  have hp : pieces c (Lib.join ws [c]) [] = ws := pieces_join c ws h0 hf
  have h1 : (Lib.splitB (str [c]) 0 (Lib.countB (str (Lib.join ws [c])) (str [c])) (str (Lib.join ws [c]))).map Value.string = wC ws := by
    have h2 := split_eq (str (Lib.join ws [c])) c
    have h3 : (str (Lib.join ws [c])).data.toList = Lib.join ws [c] := rfl
    rw [h3, hp] at h2
    have h6 : ∀ q : List ByteArray, q.map Value.string = wC (q.map (·.data.toList)) := fun q => by
      unfold wC
      rw [List.map_map]
      rfl
    exact (h6 _).trans (congrArg wC h2)
  have h4 : Lib.countB (str (Lib.join ws [c])) (str [c]) + 1 = ws.length := by
    have h5 := congrArg List.length h1
    rw [List.length_map, wC, List.length_map] at h5
    rw [← h5, Lib.splitB_all (str [c]) (Nat.le_refl 1) 0 _ (str (Lib.join ws [c])) rfl]
  rw [h1, h4] at h
  exact h
end Go.Proofs.YtabffcplbjaklaaGreatDoor
namespace Go.Proofs.YtabffcplbjaklaaGreatDoor.Abs
open Go Go.RowKit
theorem cutPrefix_spec (s p : ByteArray) (m : Mem) :
    Spec Tryz.prog 28 [.string s, .string p] m fun u M => u = .tuple #[.string (str (Lib.trimPrefix s.data.toList p.data.toList)), .bool (Lib.hasPrefix s.data.toList p.data.toList)] ∧ M = m :=
  Spec.of_below rfl fun ι w ys hy hr => by
    rw [flats_eq (by simp [flat]) hy]
    refine (Tryz.strings_CutPrefix s p w).mono ?_
    rintro e w' ⟨rfl, rfl⟩
    exact ⟨rfl, Below.refl _ _⟩
end Go.Proofs.YtabffcplbjaklaaGreatDoor.Abs
namespace Go.Proofs.YtabffcplbjaklaaGreatDoor
open Go.RowKit Abs Stab
def tagLine (G : List UInt8) : List UInt8 := tagW ++ hexV G
def linesOf (S : List Header) (G : List UInt8) : List (List UInt8) := firstW :: (S.map lineV ++ [tagLine G])
theorem join_flat : ∀ (ws : List (List UInt8)), ws ≠ [] → Lib.join ws [10] ++ [10] = ws.flatMap (· ++ [10])
  | [], h => absurd rfl h
  | [w], _ => by rw [join_one]; simp
  | w :: v :: r, _ => by
    rw [join_cons2, List.append_assoc, join_flat (v :: r) (by simp), List.flatMap_cons]
    rfl
theorem putV_join (key : ByteArray) (S : List Header) : putV key S = Lib.join (linesOf S (Sha.tag key.data.toList (bodyOf S))) [10] ++ [10] := by
  rw [join_flat _ (by simp [linesOf])]
  unfold putV linesOf tagLine
  rw [List.flatMap_cons, List.flatMap_append]
  have : bodyOf S = firstW ++ [10] ++ S.flatMap lineN := rfl
  rw [this]
  simp [List.flatMap_map]
  rfl
theorem lines_free (S : List Header) (G : List UInt8) : ∀ w ∈ linesOf S G, 10 ∉ w := by
  intro w hw
  unfold linesOf at hw
  rcases List.mem_cons.1 hw with rfl | hw
  · decide
  · rcases List.mem_append.1 hw with hw | hw
    · obtain ⟨h, _, rfl⟩ := List.mem_map.1 hw
      exact line_free h
    · simp only [List.mem_singleton] at hw
      subst hw
      intro hm
      rcases List.mem_append.1 hm with hm | hm
      · revert hm; decide
      · exact hexV_free _ _ (.inl rfl) hm
theorem join_len (S : List Header) (G : List UInt8) (key : ByteArray) (h : G = Sha.tag key.data.toList (bodyOf S)) : (Lib.join (linesOf S G) [10]).length + 1 = (putV key S).length := by
  rw [putV_join, ← h, List.length_append]; rfl
theorem line_head (h : Header) (h0 : 1 ≤ h.id) : ∃ c r, lineV h = c :: r ∧ c ≠ 116 := by
  have e : lineV h = Lib.itoa h.id ++ [32] ++ Lib.join [Lib.itoa h.n, Lib.itoa h.bytes, Lib.itoa h.raw, hexV h.salt.data.toList, hexV h.root.data.toList, hexV h.tag.data.toList] [32] := join_cons2 _ _ _ _
  have e2 : Lib.itoa h.id = Lib.decDigits h.id.toNat := by unfold Lib.itoa; rw [if_neg (by omega)]
  obtain ⟨d, r, h1, h2, _, _⟩ := dec_head h.id.toNat
  rw [e, e2, h2]
  refine ⟨_, _, rfl, fun hc => ?_⟩
  have := congrArg UInt8.toNat hc
  rw [dig_nat h1] at this
  have h3 : (116 : UInt8).toNat = 116 := rfl
  omega
theorem line_noTag (h : Header) (h0 : 1 ≤ h.id) : Lib.hasPrefix (lineV h) tagW = false := by
  obtain ⟨c, r, e, hc⟩ := line_head h h0
  rw [e]
  unfold Lib.hasPrefix tagW
  simp only [List.isPrefixOf]
  rw [beq_eq_false_iff_ne.2 (Ne.symm hc)]
  rfl
theorem tag_has (x : List UInt8) : Lib.hasPrefix (tagW ++ x) tagW = true := by
  unfold Lib.hasPrefix
  rw [List.isPrefixOf_iff_prefix]
  exact ⟨x, rfl⟩
theorem tag_trim (x : List UInt8) : Lib.trimPrefix (tagW ++ x) tagW = x := by
  unfold Lib.trimPrefix
  rw [if_pos (tag_has x)]
  rfl
theorem putV_len (key : ByteArray) (S : List Header) (hm : ∀ h ∈ S, mayH h = true) (hl : S.length ≤ 256) : (putV key S).length ≤ 3000000 := by
  have h1 := bodyOf_len hm
  have h2 := hexV_len' (Sha.tag key.data.toList (bodyOf S))
  have h3 : (Sha.tag key.data.toList (bodyOf S)).length = 32 := by rw [Sha.tag, Sha.sum_length]
  unfold putV
  have h4 : tagW.length = 4 := rfl
  simp only [List.length_append, List.length_cons, List.length_nil]
  omega
end Go.Proofs.YtabffcplbjaklaaGreatDoor
namespace Go.Proofs.YtabffcplbjaklaaGreatDoor
open Go.RowKit Abs
theorem lowerc_spec (c : Int) (m : Mem) : Abs.Spec Tryz.prog 107 [.int .u8 c] m fun u M => u = .int .u8 (bits .or .u8 c 32) ∧ M = m :=
  Abs.Spec.of_flat (by simp [flat]) rfl fun w => (Tryz.internal_strconv_lower c w).mono fun e w' ⟨h1, h2⟩ => ⟨h1, by subst h2; exact Below.refl _ _⟩
theorem dig_low : ∀ d : Fin 10, ((digit d.val).toNat : Int) = 48 + d.val := by decide
theorem dig_high : ∀ d : Fin 16, 10 ≤ d.val → ((digit d.val).toNat : Int) = 87 + d.val := by decide
theorem or_low : ∀ d : Fin 16, 10 ≤ d.val → bits .or .u8 (87 + (d.val : Int)) 32 = 87 + d.val := by decide +kernel
theorem u8_wrap {z : Int} (h0 : 0 ≤ z) (h1 : z ≤ 255) : IntKind.u8.wrap z = z := by unfold IntKind.wrap; simp [IntKind.bits, IntKind.signed]; omega
theorem u64_wrap {z : Int} (h0 : 0 ≤ z) (h1 : z ≤ 18446744073709551615) : IntKind.u64.wrap z = z := by unfold IntKind.wrap; simp [IntKind.bits, IntKind.signed]; omega
set_option maxRecDepth 100000 in
set_option maxHeartbeats 4000000 in
theorem puint_in (x y : Nat) (hx : x < 16) (hy : y < 16) (m : Mem) :
    Abs.Spec Tryz.prog 79 [.string (str [digit x, digit y]), .int .i64 16, .int .i64 8] m fun u M => u = .tuple #[.int .u64 ((16 * x + y : Nat) : Int), .nilIface] ∧ M = m := by
  refine Abs.Spec.walkB Tryz.func79 (by rfl) _ Tryz.results79 _ Tryz.ntmps79 (by simp) m [] (ext_nil m).symm 0 rfl (.inl rfl) ?_
  intro hc _
  obtain ⟨L, hL⟩ : ∃ L, L = [digit x, digit y] := ⟨_, rfl⟩
  have hLl : L.length = 2 := by rw [hL]; rfl
  have hne : beqB (str L) ⟨#[]⟩ = false := by
    rw [beqB_dec]
    refine decide_eq_false fun e => ?_
    have := congrArg (fun s : ByteArray => s.data.toList.length) e
    simp [str, hLl] at this
  rw [← hL]
  refine CW_seq (CW_region ?_)
  simp only [zZ, reduceIte, Nat.reduceLT, Int.reduceToNat, Int.reduceLE, Int.reduceEq, Int.reduceLT, Nat.reduceEqDiff, Nat.reduceAdd, zMn, Int.reduceBEq, Int.reduceBNe, decide_true, decide_false, Nat.reduceLeDiff, Int.reduceGT, Int.reduceGE]
  refine CW_seq (CW_seq (CW_region ?_))
  simp only [zZ, reduceIte, Nat.reduceLT, Int.reduceToNat, Int.reduceLE, Int.reduceEq, Int.reduceLT, Nat.reduceEqDiff, Nat.reduceAdd, zMn, Int.reduceBEq, Int.reduceBNe, decide_true, decide_false, Nat.reduceLeDiff, Int.reduceGT, Int.reduceGE, hne]
  refine CW_cond false (by rfl) (fun h => by cases h) (fun _ => CW_skip ?_)
  simp only [zZ, reduceIte, Nat.reduceLT, Int.reduceToNat, Int.reduceLE, Int.reduceEq, Int.reduceLT, Nat.reduceEqDiff, Nat.reduceAdd]
  refine CW_seq (CW_region ?_)
  simp only [zZ, reduceIte, Nat.reduceLT, Int.reduceToNat, Int.reduceLE, Int.reduceEq, Int.reduceLT, Nat.reduceEqDiff, Nat.reduceAdd, zMn, Int.reduceBEq, Int.reduceBNe, decide_true, decide_false, Nat.reduceLeDiff, Int.reduceGT, Int.reduceGE]
  refine CW_seq (CW_region ?_)
  simp only [zZ, reduceIte, Nat.reduceLT, Int.reduceToNat, Int.reduceLE, Int.reduceEq, Int.reduceLT, Nat.reduceEqDiff, Nat.reduceAdd, zMn, Int.reduceBEq, Int.reduceBNe, decide_true, decide_false, Nat.reduceLeDiff, Int.reduceGT, Int.reduceGE]
  refine CW_seq (CW_block (CW_seq (CW_region ?_)))
  simp only [zZ, reduceIte, Nat.reduceLT, Int.reduceToNat, Int.reduceLE, Int.reduceEq, Int.reduceLT, Nat.reduceEqDiff, Nat.reduceAdd, zMn, Int.reduceBEq, Int.reduceBNe, decide_true, decide_false, Nat.reduceLeDiff, Int.reduceGT, Int.reduceGE]
  refine CW_cond true (by rfl) (fun _ => CW_skip ?_) (fun h => by cases h)
  simp only [zZ, reduceIte, Nat.reduceLT, Int.reduceToNat, Int.reduceLE, Int.reduceEq, Int.reduceLT, Nat.reduceEqDiff, Nat.reduceAdd]
  refine CW_seq (CW_seq (CW_region ?_))
  simp only [zZ, reduceIte, Nat.reduceLT, Int.reduceToNat, Int.reduceLE, Int.reduceEq, Int.reduceLT, Nat.reduceEqDiff, Nat.reduceAdd, zMn, Int.reduceBEq, Int.reduceBNe, decide_true, decide_false, Nat.reduceLeDiff, Int.reduceGT, Int.reduceGE]
  refine CW_cond false (by rfl) (fun h => by cases h) (fun _ => CW_seq (CW_region ?_))
  simp only [zZ, reduceIte, Nat.reduceLT, Int.reduceToNat, Int.reduceLE, Int.reduceEq, Int.reduceLT, Nat.reduceEqDiff, Nat.reduceAdd, zMn, Int.reduceBEq, Int.reduceBNe, decide_true, decide_false, Nat.reduceLeDiff, Int.reduceGT, Int.reduceGE]
  refine CW_cond false (by rfl) (fun h => by cases h) (fun _ => CW_skip ?_)
  simp only [zZ, reduceIte, Nat.reduceLT, Int.reduceToNat, Int.reduceLE, Int.reduceEq, Int.reduceLT, Nat.reduceEqDiff, Nat.reduceAdd]
  refine CW_seq (CW_region ?_)
  simp only [zZ, reduceIte, Nat.reduceLT, Int.reduceToNat, Int.reduceLE, Int.reduceEq, Int.reduceLT, Nat.reduceEqDiff, Nat.reduceAdd, zMn, Int.reduceBEq, Int.reduceBNe, decide_true, decide_false, Nat.reduceLeDiff, Int.reduceGT, Int.reduceGE]
  refine CW_seq (CW_seq (CW_region ?_))
  simp only [zZ, reduceIte, Nat.reduceLT, Int.reduceToNat, Int.reduceLE, Int.reduceEq, Int.reduceLT, Nat.reduceEqDiff, Nat.reduceAdd, zMn, Int.reduceBEq, Int.reduceBNe, decide_true, decide_false, Nat.reduceLeDiff, Int.reduceGT, Int.reduceGE]
  refine CW_block (CW_seq (CW_region ?_))
  simp only [zZ, reduceIte, Nat.reduceLT, Int.reduceToNat, Int.reduceLE, Int.reduceEq, Int.reduceLT, Nat.reduceEqDiff, Nat.reduceAdd, zMn, Int.reduceBEq, Int.reduceBNe, decide_true, decide_false, Nat.reduceLeDiff, Int.reduceGT, Int.reduceGE]
  refine CW_cond false (by rfl) (fun h => by cases h) (fun _ => CW_seq (CW_region ?_))
  simp only [zZ, reduceIte, Nat.reduceLT, Int.reduceToNat, Int.reduceLE, Int.reduceEq, Int.reduceLT, Nat.reduceEqDiff, Nat.reduceAdd, zMn, Int.reduceBEq, Int.reduceBNe, decide_true, decide_false, Nat.reduceLeDiff, Int.reduceGT, Int.reduceGE]
  refine CW_cond true (by rfl) (fun _ => CW_region ?_) (fun h => by cases h)
  simp only [zZ, reduceIte, Nat.reduceLT, Int.reduceToNat, Int.reduceLE, Int.reduceEq, Int.reduceLT, Nat.reduceEqDiff, Nat.reduceAdd, zMn, Int.reduceBEq, Int.reduceBNe, decide_true, decide_false, Nat.reduceLeDiff, Int.reduceGT, Int.reduceGE]
  have w255 : IntKind.u64.wrap (IntKind.u64.wrap (1 * 2 ^ min 8 IntKind.u64.bits) - 1) = 255 := by decide +kernel
  have w8 : IntKind.u64.wrap 8 = 8 := by decide
  have w16 : IntKind.u8.wrap 16 = 16 := by decide
  have w16b : IntKind.u64.wrap 16 = 16 := by decide
  have hnew := new_bytes_str L (by omega)
  refine CW_seq (CW_region ?_)
  simp only [zZ, reduceIte, Nat.reduceLT, Int.reduceToNat, Int.reduceLE, Int.reduceEq, Int.reduceLT, Nat.reduceEqDiff, Nat.reduceAdd, zMn, Int.reduceBEq, Int.reduceBNe, decide_true, decide_false, Nat.reduceLeDiff, Int.reduceGT, Int.reduceGE, w8, w255]
  refine CW_seq (CW_region ?_)
  simp only [zZ, reduceIte, Nat.reduceLT, Int.reduceToNat, Int.reduceLE, Int.reduceEq, Int.reduceLT, Nat.reduceEqDiff, Nat.reduceAdd, zMn, Int.reduceBEq, Int.reduceBNe, decide_true, decide_false, Nat.reduceLeDiff, Int.reduceGT, Int.reduceGE]
  refine CW_seq (CW_region ?_)
  simp only [zZ, reduceIte, Nat.reduceLT, Int.reduceToNat, Int.reduceLE, Int.reduceEq, Int.reduceLT, Nat.reduceEqDiff, Nat.reduceAdd, zMn, Int.reduceBEq, Int.reduceBNe, decide_true, decide_false, Nat.reduceLeDiff, Int.reduceGT, Int.reduceGE]
  have c2 : ((2 : Nat) : Int) = 2 := rfl
  have hbs : bsize (str L) = 2 := by rw [bsize_str, hLl]
  have rb : ∀ (σ : Nat → Option Nat), renL (ren σ 4) (bytesV L) = some (bytesV L) := fun σ => renL_flat fun x hx => by
      simp only [bytesV, List.mem_map] at hx
      obtain ⟨y, _, rfl⟩ := hx
      rfl
  refine BW_mid hc (fun f l => f = [(0, .string (str L)), (12, .bool false), (13, .int .u64 ((16 * x + y : Nat) : Int))] ∧ l = []) ?_ ?_
  · refine CW_seq (CW_region ?_)
    simp only [zZ, reduceIte, Nat.reduceLT, Int.reduceToNat, Int.reduceLE, Int.reduceEq, Int.reduceLT, Nat.reduceEqDiff, Nat.reduceAdd, zMn, Int.reduceBEq, Int.reduceBNe, decide_true, decide_false, Nat.reduceLeDiff, Int.reduceGT, Int.reduceGE, hnew, hbs, c2]
    refine CW_block (BW_loop hc (fun n f l => ∃ t v : Nat, t + n = 2 ∧ f = [(0, .string (str L)), (1, .int .i64 16), (8, .bool false), (9, .string (str L)), (10, .int .u64 1152921504606846976), (11, .int .u64 255), (12, .bool false), (13, .int .u64 (v : Int)), (99, .slice (some ⟨m.size + 0, 0, none⟩) 2 2), (100, .int .i64 2), (101, .int .i64 (t : Int))] ∧
      v = (if t = 0 then 0 else if t = 1 then x else 16 * x + y) ∧ l = [some (some (.cells false 1 (bytesV L)))]) 2 ?_ ?_)
    · refine ⟨_, rfl, [0], [0, 1, 8, 9, 10, 11, 12, 13, 99, 100, 101], rfl, ?_⟩
      simp only [zZ, reduceIte, Nat.reduceLT, Int.reduceToNat, Int.reduceLE, Int.reduceEq, Int.reduceLT, Nat.reduceEqDiff, Nat.reduceAdd, zG, rb]
      refine ⟨0, 0, by omega, ?_⟩
      simp
    · rintro n f l ⟨t, v, htn, rfl, hv, rfl⟩
      refine CW_seq (CW_region ?_)
      simp only [zZ, reduceIte, Nat.reduceLT, Int.reduceToNat, Int.reduceLE, Int.reduceEq, Int.reduceLT, Nat.reduceEqDiff, Nat.reduceAdd, zMn, Int.reduceBEq, Int.reduceBNe, decide_true, decide_false, Nat.reduceLeDiff, Int.reduceGT, Int.reduceGE]
      refine CW_seq (CW_cond (decide ((t : Int) < 2)) (by rfl) (fun h => CW_skip ?_) (fun h => CW_exit ?_))
      · have h := of_decide_eq_true h
        have ht : t = 0 ∨ t = 1 := by omega
        obtain ⟨d, hd, hLd, hvd⟩ : ∃ d : Nat, d < 16 ∧ L[t]? = some (digit d) ∧ v * 16 + d = (if t + 1 = 0 then 0 else if t + 1 = 1 then x else 16 * x + y) ∧ v < 16 := by
          rcases ht with rfl | rfl
          · exact ⟨x, hx, by rw [hL]; rfl, by simp at hv ⊢; omega, by simp at hv; omega⟩
          · exact ⟨y, hy, by rw [hL]; rfl, by simp at hv ⊢; omega, by simp at hv; omega⟩
        obtain ⟨hvd, hv16⟩ := hvd
        have z0 : (0 : Int) ≤ (t : Int) := by omega
        have hc1 : cellIn t (some (.cells false 1 (bytesV L))) = some (.int .u8 ((digit d).toNat : Int)) := by
          simp [cellIn, bytesV, hLd, byteV]
        obtain ⟨C, hC⟩ : ∃ C : Int, C = ((digit d).toNat : Int) := ⟨_, rfl⟩
        rw [← hC] at hc1
        have q95 : (C == 95) = false := by
          have : ∀ d : Fin 16, (((digit d.val).toNat : Int) == 95) = false := by decide
          rw [hC]; exact this ⟨d, hd⟩
        have ldb : ∀ (get : Nat → Option Blk) (b o : Nat), gLoad Tryz.prog get 5 (.pointer (some ⟨b, o, none⟩)) = cellIn o (get b) := fun get b o => ld_cell Tryz.underlying5 rfl get b o
        simp only [zZ, reduceIte, Nat.reduceLT, Int.reduceToNat, Int.reduceLE, Int.reduceEq, Int.reduceLT, Nat.reduceEqDiff, Nat.reduceAdd]
        refine CW_seq (CW_block (CW_seq (CW_region ?_)))
        simp only [zZ, reduceIte, Nat.reduceLT, Int.reduceToNat, Int.reduceLE, Int.reduceEq, Int.reduceLT, Nat.reduceEqDiff, Nat.reduceAdd, zMn, Int.reduceBEq, Int.reduceBNe, decide_true, decide_false, Nat.reduceLeDiff, Int.reduceGT, Int.reduceGE, z0, c2, h, and_self, Int.toNat_natCast, ldb, hc1]
        refine CW_seq (CW_region ?_)
        simp only [zZ, reduceIte, Nat.reduceLT, Int.reduceToNat, Int.reduceLE, Int.reduceEq, Int.reduceLT, Nat.reduceEqDiff, Nat.reduceAdd, zMn, Int.reduceBEq, Int.reduceBNe, decide_true, decide_false, Nat.reduceLeDiff, Int.reduceGT, Int.reduceGE]
        refine BW_mid hc (fun f l => f = [(0, .string (str L)), (1, .int .i64 16), (8, .bool false), (9, .string (str L)), (10, .int .u64 1152921504606846976), (11, .int .u64 255), (12, .bool false), (13, .int .u64 (v : Int)), (16, .int .u8 (d : Int)), (99, .slice (some ⟨m.size + 0, 0, none⟩) 2 2), (100, .int .i64 2), (101, .int .i64 (t : Int))] ∧
            l = [some (some (.cells false 1 (bytesV L)))]) ?_ ?_
        · refine CW_block (CW_seq (CW_region ?_))
          simp only [zZ, reduceIte, Nat.reduceLT, Int.reduceToNat, Int.reduceLE, Int.reduceEq, Int.reduceLT, Nat.reduceEqDiff, Nat.reduceAdd, zMn, Int.reduceBEq, Int.reduceBNe, decide_true, decide_false, Nat.reduceLeDiff, Int.reduceGT, Int.reduceGE, q95]
          refine CW_cond false (by rfl) (fun h => by cases h) (fun _ => CW_seq (CW_region ?_))
          by_cases hd10 : d < 10
          · have e1 : C = 48 + d := by rw [hC]; exact dig_low ⟨d, hd10⟩
            have q1 : decide ((48 : Int) ≤ C) = true := decide_eq_true (by omega)
            have q2 : decide (C ≤ 57) = true := decide_eq_true (by omega)
            have e2 : IntKind.u8.wrap (C - 48) = (d : Int) := by rw [u8_wrap (by omega) (by omega)]; omega
            simp only [zZ, reduceIte, Nat.reduceLT, Int.reduceToNat, Int.reduceLE, Int.reduceEq, Int.reduceLT, Nat.reduceEqDiff, Nat.reduceAdd, zMn, Int.reduceBEq, Int.reduceBNe, decide_true, decide_false, Nat.reduceLeDiff, Int.reduceGT, Int.reduceGE, q1, q2]
            refine CW_cond true (by rfl) (fun _ => CW_region ?_) (fun h => by cases h)
            simp only [zZ, reduceIte, Nat.reduceLT, Int.reduceToNat, Int.reduceLE, Int.reduceEq, Int.reduceLT, Nat.reduceEqDiff, Nat.reduceAdd, zMn, Int.reduceBEq, Int.reduceBNe, decide_true, decide_false, Nat.reduceLeDiff, Int.reduceGT, Int.reduceGE, e2]
            refine ⟨_, rfl, [0], [0, 1, 8, 9, 10, 11, 12, 13, 16, 99, 100, 101], rfl, ?_⟩
            simp only [zZ, reduceIte, Nat.reduceLT, Int.reduceToNat, Int.reduceLE, Int.reduceEq, Int.reduceLT, Nat.reduceEqDiff, Nat.reduceAdd, zG, rb]
          · have e1 : C = 87 + d := by rw [hC]; exact dig_high ⟨d, hd⟩ (by show 10 ≤ d; omega)
            have q1 : decide ((48 : Int) ≤ C) = true := decide_eq_true (by omega)
            have q2 : decide (C ≤ 57) = false := decide_eq_false (by omega)
            have e2 : bits .or .u8 C 32 = C := by rw [e1]; exact or_low ⟨d, hd⟩ (by show 10 ≤ d; omega)
            have q3 : decide ((97 : Int) ≤ C) = true := decide_eq_true (by omega)
            have q4 : decide (C ≤ 122) = true := decide_eq_true (by omega)
            have e3 : IntKind.u8.wrap (C - 97) = C - 97 := u8_wrap (by omega) (by omega)
            have e4 : IntKind.u8.wrap (C - 97 + 10) = (d : Int) := by rw [u8_wrap (by omega) (by omega)]; omega
            simp only [zZ, reduceIte, Nat.reduceLT, Int.reduceToNat, Int.reduceLE, Int.reduceEq, Int.reduceLT, Nat.reduceEqDiff, Nat.reduceAdd, zMn, Int.reduceBEq, Int.reduceBNe, decide_true, decide_false, Nat.reduceLeDiff, Int.reduceGT, Int.reduceGE, q1, q2]
            refine CW_cond false (by rfl) (fun h => by cases h) (fun _ => CW_seq (CW_region ?_))
            simp only [zZ, reduceIte, Nat.reduceLT, Int.reduceToNat, Int.reduceLE, Int.reduceEq, Int.reduceLT, Nat.reduceEqDiff, Nat.reduceAdd, zMn, Int.reduceBEq, Int.reduceBNe, decide_true, decide_false, Nat.reduceLeDiff, Int.reduceGT, Int.reduceGE]
            refine ⟨by kernel_rfl, _, lowerc_spec C _, ?_⟩
            rintro _ _ ⟨rfl, rfl⟩
            simp only [zZ, reduceIte, Nat.reduceLT, Int.reduceToNat, Int.reduceLE, Int.reduceEq, Int.reduceLT, Nat.reduceEqDiff, Nat.reduceAdd, zMn, Int.reduceBEq, Int.reduceBNe, decide_true, decide_false, Nat.reduceLeDiff, Int.reduceGT, Int.reduceGE, e2, q3]
            refine ⟨by kernel_rfl, _, lowerc_spec C _, ?_⟩
            rintro _ _ ⟨rfl, rfl⟩
            simp only [zZ, reduceIte, Nat.reduceLT, Int.reduceToNat, Int.reduceLE, Int.reduceEq, Int.reduceLT, Nat.reduceEqDiff, Nat.reduceAdd, zMn, Int.reduceBEq, Int.reduceBNe, decide_true, decide_false, Nat.reduceLeDiff, Int.reduceGT, Int.reduceGE, e2, q3, q4]
            refine CW_cond true (by rfl) (fun _ => CW_region ?_) (fun h => by cases h)
            simp only [zZ, reduceIte, Nat.reduceLT, Int.reduceToNat, Int.reduceLE, Int.reduceEq, Int.reduceLT, Nat.reduceEqDiff, Nat.reduceAdd, zMn, Int.reduceBEq, Int.reduceBNe, decide_true, decide_false, Nat.reduceLeDiff, Int.reduceGT, Int.reduceGE]
            refine ⟨by kernel_rfl, _, lowerc_spec C _, ?_⟩
            rintro _ _ ⟨rfl, rfl⟩
            simp only [zZ, reduceIte, Nat.reduceLT, Int.reduceToNat, Int.reduceLE, Int.reduceEq, Int.reduceLT, Nat.reduceEqDiff, Nat.reduceAdd, zMn, Int.reduceBEq, Int.reduceBNe, decide_true, decide_false, Nat.reduceLeDiff, Int.reduceGT, Int.reduceGE, e2, e3, e4]
            refine ⟨_, rfl, [0], [0, 1, 8, 9, 10, 11, 12, 13, 16, 99, 100, 101], rfl, ?_⟩
            simp only [zZ, reduceIte, Nat.reduceLT, Int.reduceToNat, Int.reduceLE, Int.reduceEq, Int.reduceLT, Nat.reduceEqDiff, Nat.reduceAdd, zG, rb]
        · rintro f l ⟨rfl, rfl⟩
          have q1 : decide ((d : Int) ≥ 16) = false := decide_eq_false (by omega)
          have q2 : decide ((v : Int) ≥ 1152921504606846976) = false := decide_eq_false (by omega)
          have e1 : IntKind.u64.wrap ((v : Int) * 16) = (v : Int) * 16 := u64_wrap (by omega) (by omega)
          have e0 : IntKind.u64.wrap (d : Int) = (d : Int) := u64_wrap (by omega) (by omega)
          have e2 : IntKind.u64.wrap ((v : Int) * 16 + (d : Int)) = ((v * 16 + d : Nat) : Int) := by rw [u64_wrap (by omega) (by omega)]; omega
          have q3 : decide (((v * 16 + d : Nat) : Int) < (v : Int) * 16) = false := decide_eq_false (by omega)
          have q4 : decide (((v * 16 + d : Nat) : Int) > 255) = false := decide_eq_false (by omega)
          refine CW_seq (CW_seq (CW_region ?_))
          simp only [zZ, reduceIte, Nat.reduceLT, Int.reduceToNat, Int.reduceLE, Int.reduceEq, Int.reduceLT, Nat.reduceEqDiff, Nat.reduceAdd, zMn, Int.reduceBEq, Int.reduceBNe, decide_true, decide_false, Nat.reduceLeDiff, Int.reduceGT, Int.reduceGE, w16, q1]
          refine CW_cond false (by rfl) (fun h => by cases h) (fun _ => CW_skip ?_)
          simp only [zZ, reduceIte, Nat.reduceLT, Int.reduceToNat, Int.reduceLE, Int.reduceEq, Int.reduceLT, Nat.reduceEqDiff, Nat.reduceAdd]
          refine CW_seq (CW_seq (CW_region ?_))
          simp only [zZ, reduceIte, Nat.reduceLT, Int.reduceToNat, Int.reduceLE, Int.reduceEq, Int.reduceLT, Nat.reduceEqDiff, Nat.reduceAdd, zMn, Int.reduceBEq, Int.reduceBNe, decide_true, decide_false, Nat.reduceLeDiff, Int.reduceGT, Int.reduceGE, q2]
          refine CW_cond false (by rfl) (fun h => by cases h) (fun _ => CW_skip ?_)
          simp only [zZ, reduceIte, Nat.reduceLT, Int.reduceToNat, Int.reduceLE, Int.reduceEq, Int.reduceLT, Nat.reduceEqDiff, Nat.reduceAdd]
          refine CW_seq (CW_region ?_)
          simp only [zZ, reduceIte, Nat.reduceLT, Int.reduceToNat, Int.reduceLE, Int.reduceEq, Int.reduceLT, Nat.reduceEqDiff, Nat.reduceAdd, zMn, Int.reduceBEq, Int.reduceBNe, decide_true, decide_false, Nat.reduceLeDiff, Int.reduceGT, Int.reduceGE, w16b, e1]
          refine CW_seq (CW_region ?_)
          simp only [zZ, reduceIte, Nat.reduceLT, Int.reduceToNat, Int.reduceLE, Int.reduceEq, Int.reduceLT, Nat.reduceEqDiff, Nat.reduceAdd, zMn, Int.reduceBEq, Int.reduceBNe, decide_true, decide_false, Nat.reduceLeDiff, Int.reduceGT, Int.reduceGE, e0, e2]
          refine CW_seq (CW_seq (CW_region ?_))
          simp only [zZ, reduceIte, Nat.reduceLT, Int.reduceToNat, Int.reduceLE, Int.reduceEq, Int.reduceLT, Nat.reduceEqDiff, Nat.reduceAdd, zMn, Int.reduceBEq, Int.reduceBNe, decide_true, decide_false, Nat.reduceLeDiff, Int.reduceGT, Int.reduceGE, q3, q4]
          refine CW_cond false (by rfl) (fun h => by cases h) (fun _ => CW_skip ?_)
          simp only [zZ, reduceIte, Nat.reduceLT, Int.reduceToNat, Int.reduceLE, Int.reduceEq, Int.reduceLT, Nat.reduceEqDiff, Nat.reduceAdd]
          refine CW_region ?_
          simp only [zZ, reduceIte, Nat.reduceLT, Int.reduceToNat, Int.reduceLE, Int.reduceEq, Int.reduceLT, Nat.reduceEqDiff, Nat.reduceAdd, zMn, Int.reduceBEq, Int.reduceBNe, decide_true, decide_false, Nat.reduceLeDiff, Int.reduceGT, Int.reduceGE]
          refine CW_region ?_
          have xi : IntKind.i64.wrap ((t : Int) + 1) = ((t + 1 : Nat) : Int) := by rw [wr (by omega) (by omega)]; omega
          simp only [zZ, reduceIte, Nat.reduceLT, Int.reduceToNat, Int.reduceLE, Int.reduceEq, Int.reduceLT, Nat.reduceEqDiff, Nat.reduceAdd, zMn, Int.reduceBEq, Int.reduceBNe, decide_true, decide_false, Nat.reduceLeDiff, Int.reduceGT, Int.reduceGE, xi]
          refine ⟨_, rfl, [0], [0, 1, 8, 9, 10, 11, 12, 13, 99, 100, 101], rfl, ?_⟩
          simp only [zZ, reduceIte, Nat.reduceLT, Int.reduceToNat, Int.reduceLE, Int.reduceEq, Int.reduceLT, Nat.reduceEqDiff, Nat.reduceAdd, zG, rb]
          refine ⟨n - 1, ⟨t + 1, v * 16 + d, by omega, ?_⟩, by omega⟩
          simp [hvd]
      · have h := of_decide_eq_false h
        have ht : t = 2 := by omega
        subst ht
        refine ⟨_, rfl, [], [0, 12, 13], rfl, ?_⟩
        simp only [zZ, reduceIte, Nat.reduceLT, Int.reduceToNat, Int.reduceLE, Int.reduceEq, Int.reduceLT, Nat.reduceEqDiff, Nat.reduceAdd, zG]
        simp at hv
        simp [hv]
  · rintro f l ⟨rfl, rfl⟩
    refine CW_seq (CW_seq (CW_region ?_))
    simp only [zZ, reduceIte, Nat.reduceLT, Int.reduceToNat, Int.reduceLE, Int.reduceEq, Int.reduceLT, Nat.reduceEqDiff, Nat.reduceAdd, zMn, Int.reduceBEq, Int.reduceBNe, decide_true, decide_false, Nat.reduceLeDiff, Int.reduceGT, Int.reduceGE]
    refine CW_cond false (by rfl) (fun h => by cases h) (fun _ => CW_skip ?_)
    simp only [zZ, reduceIte, Nat.reduceLT, Int.reduceToNat, Int.reduceLE, Int.reduceEq, Int.reduceLT, Nat.reduceEqDiff, Nat.reduceAdd]
    refine CW_seq (CW_region ?_)
    simp only [zZ, reduceIte, Nat.reduceLT, Int.reduceToNat, Int.reduceLE, Int.reduceEq, Int.reduceLT, Nat.reduceEqDiff, Nat.reduceAdd, zMn, Int.reduceBEq, Int.reduceBNe, decide_true, decide_false, Nat.reduceLeDiff, Int.reduceGT, Int.reduceGE]
    refine CW_ret ?_
    simp only [zZ, reduceIte, Nat.reduceLT, Int.reduceToNat, Int.reduceLE, Int.reduceEq, Int.reduceLT, Nat.reduceEqDiff, Nat.reduceAdd, zMn, Int.reduceBEq, Int.reduceBNe, decide_true, decide_false, Nat.reduceLeDiff, Int.reduceGT, Int.reduceGE, bEnd, sAnswer, sAnswer.sRes]
    exact told_flat rfl rfl
theorem neq_nil : aBin Tryz.prog .neq 48 true .nilIface .nilIface = some (.bool false) := by kernel_rfl
set_option maxRecDepth 100000 in
set_option maxHeartbeats 4000000 in
theorem puint_spec (x y : Nat) (hx : x < 16) (hy : y < 16) (m : Mem) :
    Abs.Spec Tryz.prog 58 [.string (str [digit x, digit y]), .int .i64 16, .int .i64 8] m fun u M => u = .tuple #[.int .u64 ((16 * x + y : Nat) : Int), .nilIface] ∧ M = m := by
  refine Abs.Spec.walkB Tryz.func58 (by rfl) _ Tryz.results58 _ Tryz.ntmps58 (by simp) m [] (ext_nil m).symm 0 rfl (.inl rfl) ?_
  intro hc _
  refine CW_seq (CW_region ?_)
  simp only [zZ, reduceIte, Nat.reduceLT, Int.reduceToNat, Int.reduceLE, Int.reduceEq, Int.reduceLT, Nat.reduceEqDiff, Nat.reduceAdd, zMn, Int.reduceBEq, Int.reduceBNe, decide_true, decide_false]
  refine CW_seq (CW_region ?_)
  simp only [zZ, reduceIte, Nat.reduceLT, Int.reduceToNat, Int.reduceLE, Int.reduceEq, Int.reduceLT, Nat.reduceEqDiff, Nat.reduceAdd, zMn, Int.reduceBEq, Int.reduceBNe, decide_true, decide_false]
  refine ⟨by kernel_rfl, _, puint_in x y hx hy _, ?_⟩
  rintro _ _ ⟨rfl, rfl⟩
  simp only [zZ, reduceIte, Nat.reduceLT, Int.reduceToNat, Int.reduceLE, Int.reduceEq, Int.reduceLT, Nat.reduceEqDiff, Nat.reduceAdd, zMn, Int.reduceBEq, Int.reduceBNe, decide_true, decide_false]
  refine CW_seq (CW_seq (CW_region ?_))
  simp only [zZ, reduceIte, Nat.reduceLT, Int.reduceToNat, Int.reduceLE, Int.reduceEq, Int.reduceLT, Nat.reduceEqDiff, Nat.reduceAdd, zMn, neq_nil]
  refine CW_cond false (by rfl) (fun h => by cases h) (fun _ => CW_skip ?_)
  simp only [zZ, reduceIte, Nat.reduceLT, Int.reduceToNat, Int.reduceLE, Int.reduceEq, Int.reduceLT, Nat.reduceEqDiff, Nat.reduceAdd]
  refine CW_seq (CW_region ?_)
  simp only [zZ, reduceIte, Nat.reduceLT, Int.reduceToNat, Int.reduceLE, Int.reduceEq, Int.reduceLT, Nat.reduceEqDiff, Nat.reduceAdd, zMn, Int.reduceBEq, Int.reduceBNe, decide_true, decide_false]
  refine CW_ret ?_
  simp only [zZ, reduceIte, Nat.reduceLT, Int.reduceToNat, Int.reduceLE, Int.reduceEq, Int.reduceLT, Nat.reduceEqDiff, Nat.reduceAdd, zMn, Int.reduceBEq, Int.reduceBNe, decide_true, decide_false, bEnd, sAnswer, sAnswer.sRes]
  exact told_flat rfl rfl
end Go.Proofs.YtabffcplbjaklaaGreatDoor
namespace Go.Proofs.YtabffcplbjaklaaGreatDoor
open Go.RowKit Abs
theorem dig_ascii : ∀ d : Fin 16, (digit d.val).toNat < 128 := by decide
theorem dig_lower : ∀ d : Fin 16, Lib.toLowerA [digit d.val] = [digit d.val] := by decide
theorem lowered_spec (x y : Nat) (hx : x < 16) (hy : y < 16) (m : Mem) : Abs.Spec Tryz.prog 59 [.string (str [digit x, digit y])] m fun u M => u = .string (str [digit x, digit y]) ∧ M = m :=
  Abs.Spec.of_flat (by simp [flat]) rfl fun w => by
    have h := Tryz.strings_ToLower_ascii (str [digit x, digit y]) w (by show ([digit x, digit y] : List UInt8).length ≤ _; simp) (by
      intro j b hb
      have hb' : ([digit x, digit y] : List UInt8)[j]? = some b := hb
      rcases j with _ | _ | j
      · cases hb'; exact dig_ascii ⟨x, hx⟩
      · cases hb'; exact dig_ascii ⟨y, hy⟩
      · cases hb')
    have e : Lib.toLowerA (str [digit x, digit y]).data.toList = [digit x, digit y] := by
      have h1 := dig_lower ⟨x, hx⟩
      have h2 := dig_lower ⟨y, hy⟩
      show Lib.toLowerA [digit x, digit y] = _
      unfold Lib.toLowerA at h1 h2 ⊢
      simp only [List.map_cons, List.map_nil, List.cons.injEq, and_true] at h1 h2 ⊢
      exact ⟨h1, h2⟩
    rw [e] at h
    exact h
theorem hexL_at : ∀ (q : List UInt8) (t : Nat) (b : UInt8), q[t]? = some b → ((hexL q).drop (2 * t)).take 2 = [digit (b.toNat / 16), digit (b.toNat % 16)]
  | [], t, b, h => by cases h
  | x :: r, 0, b, h => by
    cases h
    rfl
  | x :: r, t + 1, b, h => by
    have := hexL_at r t b h
    have e : hexL (x :: r) = digit (x.toNat / 16) :: digit (x.toNat % 16) :: hexL r := rfl
    rw [e, show 2 * (t + 1) = 2 * t + 1 + 1 by omega, List.drop_succ_cons, List.drop_succ_cons]
    exact this
set_option maxRecDepth 100000 in
set_option maxHeartbeats 4000000 in
theorem munhex_spec (q : List UInt8) (N : Nat) (hN : q.length = N) (h0 : 0 < N) (hN2 : N ≤ 1000) (m : Mem) :
    Abs.Spec Tryz.prog 29 [.string (str (hexL q)), .int .i64 (N : Nat)] m fun u M => u = .tuple #[.string (str q), .bool true] ∧ M = m := by
  refine Abs.Spec.walkB Tryz.func29 (by rfl) _ Tryz.results29 _ Tryz.ntmps29 (by simp) m [] (ext_nil m).symm 0 rfl (.inl rfl) ?_
  intro hc _
  obtain ⟨H, hH⟩ : ∃ H, H = hexL q := ⟨_, rfl⟩
  have hHl : H.length = 2 * N := by rw [hH, hexL_len, hN]
  have hbs : bsize (str H) = 2 * N := by rw [bsize_str, hHl]
  have rb : ∀ (σ : Nat → Option Nat) (p : List UInt8), renL (ren σ 4) (bytesV p) = some (bytesV p) := fun σ p => renL_flat fun x hx => by
    simp only [bytesV, List.mem_map] at hx
    obtain ⟨y, _, rfl⟩ := hx
    rfl
  have m1 : IntKind.i64.wrap (2 * (N : Int)) = ((2 * N : Nat) : Int) := by rw [wr (by omega) (by omega)]; omega
  have q0 : (((2 * N : Nat) : Int) != ((2 * N : Nat) : Int)) = false := bne_self_eq_false _
  rw [← hH]
  refine CW_seq (CW_region ?_)
  simp only [zZ, reduceIte, Nat.reduceLT, Int.reduceToNat, Int.reduceLE, Int.reduceEq, Int.reduceLT, Nat.reduceEqDiff, Nat.reduceAdd, zMn, zHex]
  refine CW_seq (CW_seq (CW_region ?_))
  simp only [zZ, reduceIte, Nat.reduceLT, Int.reduceToNat, Int.reduceLE, Int.reduceEq, Int.reduceLT, Nat.reduceEqDiff, Nat.reduceAdd, zMn, zHex, hbs, m1, q0]
  refine CW_cond false (by rfl) (fun h => by cases h) (fun _ => CW_skip ?_)
  simp only [zZ, reduceIte, Nat.reduceLT, Int.reduceToNat, Int.reduceLE, Int.reduceEq, Int.reduceLT, Nat.reduceEqDiff, Nat.reduceAdd]
  refine CW_seq (CW_region ?_)
  simp only [zZ, reduceIte, Nat.reduceLT, Int.reduceToNat, Int.reduceLE, Int.reduceEq, Int.reduceLT, Nat.reduceEqDiff, Nat.reduceAdd, zMn, zHex]
  refine CW_seq (CW_seq (CW_region ?_))
  simp only [zZ, reduceIte, Nat.reduceLT, Int.reduceToNat, Int.reduceLE, Int.reduceEq, Int.reduceLT, Nat.reduceEqDiff, Nat.reduceAdd, zMn, zHex]
  refine CW_block (BW_loop hc (fun n f l => ∃ (t : Nat) (V : Value), t + n = N ∧ f = [(0, .string (str H)), (6, V), (15, .int .i64 (N : Int)), (16, .int .i64 (t : Int))] ∧
    ((t = 0 ∧ V = .slice none 0 0 ∧ l = []) ∨ (0 < t ∧ V = .slice (some ⟨m.size + 0, 0, none⟩) t t ∧ l = [some (some (.cells false 1 (bytesV (q.take t))))]))) N ?_ ?_)
  · refine ⟨_, rfl, [], [0, 6, 15, 16], rfl, ?_⟩
    simp only [zZ, reduceIte, Nat.reduceLT, Int.reduceToNat, Int.reduceLE, Int.reduceEq, Int.reduceLT, Nat.reduceEqDiff, Nat.reduceAdd, zG]
    exact ⟨0, _, by omega, rfl, .inl ⟨rfl, rfl⟩⟩
  · rintro n f l ⟨t, V, htn, rfl, hV⟩
    refine CW_seq (CW_region ?_)
    simp only [zZ, reduceIte, Nat.reduceLT, Int.reduceToNat, Int.reduceLE, Int.reduceEq, Int.reduceLT, Nat.reduceEqDiff, Nat.reduceAdd, zMn, zHex]
    refine CW_seq (CW_cond (decide ((t : Int) < (N : Int))) (by rfl) (fun h => CW_skip ?_) (fun h => CW_exit ?_))
    · have htl : t < N := by have := of_decide_eq_true h; omega
      obtain ⟨b, hb⟩ : ∃ b, q[t]? = some b := ⟨_, List.getElem?_eq_getElem (by omega)⟩
      have hb16 : b.toNat / 16 < 16 := by have := b.toNat_lt; omega
      have hb16' : b.toNat % 16 < 16 := by omega
      have m2 : IntKind.i64.wrap (2 * (t : Int)) = ((2 * t : Nat) : Int) := by rw [wr (by omega) (by omega)]; omega
      have m3 : IntKind.i64.wrap (((2 * t : Nat) : Int) + 2) = ((2 * t + 2 : Nat) : Int) := by rw [wr (by omega) (by omega)]; omega
      have hsl : ∀ get, gSlice Tryz.prog get 9 (.string (str H)) (some (.int .i64 ((2 * t : Nat) : Int))) (some (.int .i64 ((2 * t + 2 : Nat) : Int))) = some (.string (str [digit (b.toNat / 16), digit (b.toNat % 16)])) := fun get => by
        rw [slice_mid get H (2 * t) (2 * t + 2) (by omega) (by omega), show 2 * t + 2 - 2 * t = 2 by omega, hH, hexL_at q t b hb]
      obtain ⟨S, hS⟩ : ∃ S, S = str [digit (b.toNat / 16), digit (b.toNat % 16)] := ⟨_, rfl⟩
      have hpu := puint_spec (b.toNat / 16) (b.toNat % 16) hb16 hb16'
      have hlo := lowered_spec (b.toNat / 16) (b.toNat % 16) hb16 hb16'
      rw [← hS] at hsl hpu hlo
      have hbq : beqB S S = true := by rw [beqB_dec]; exact decide_eq_true rfl
      have hval : ((16 * (b.toNat / 16) + b.toNat % 16 : Nat) : Int) = (b.toNat : Int) := by omega
      rw [hval] at hpu
      have e8 : IntKind.u8.wrap (b.toNat : Int) = (b.toNat : Int) := u8_wrap (by omega) (by have := b.toNat_lt; omega)
      simp only [zZ, reduceIte, Nat.reduceLT, Int.reduceToNat, Int.reduceLE, Int.reduceEq, Int.reduceLT, Nat.reduceEqDiff, Nat.reduceAdd]
      refine CW_seq (CW_block (CW_seq (CW_region ?_)))
      simp only [zZ, reduceIte, Nat.reduceLT, Int.reduceToNat, Int.reduceLE, Int.reduceEq, Int.reduceLT, Nat.reduceEqDiff, Nat.reduceAdd, zMn, zHex]
      refine CW_seq (CW_region ?_)
      simp only [zZ, reduceIte, Nat.reduceLT, Int.reduceToNat, Int.reduceLE, Int.reduceEq, Int.reduceLT, Nat.reduceEqDiff, Nat.reduceAdd, zMn, zHex, m2, m3, hsl]
      refine ⟨by kernel_rfl, _, hpu _, ?_⟩
      rintro _ _ ⟨rfl, rfl⟩
      simp only [zZ, reduceIte, Nat.reduceLT, Int.reduceToNat, Int.reduceLE, Int.reduceEq, Int.reduceLT, Nat.reduceEqDiff, Nat.reduceAdd, zMn, zHex]
      refine CW_seq (CW_seq (CW_draw hmix 18 (by kernel_rfl) (by kernel_rfl) ?_))
      simp only [zZ, reduceIte, Nat.reduceLT, Int.reduceToNat, Int.reduceLE, Int.reduceEq, Int.reduceLT, Nat.reduceEqDiff, Nat.reduceAdd, zMn, zHex, m2, m3, hsl, neq_nil, hbq]
      refine ⟨by kernel_rfl, _, hlo _, ?_⟩
      refine ⟨by decide, ?_⟩
      simp only [zZ, reduceIte, Nat.reduceLT, Int.reduceToNat, Int.reduceLE, Int.reduceEq, Int.reduceLT, Nat.reduceEqDiff, Nat.reduceAdd, zMn, zHex, m2, m3, hsl, neq_nil, hbq]
      refine CW_cond false (by rfl) (fun h => by cases h) (fun _ => CW_skip ?_)
      simp only [zZ, reduceIte, Nat.reduceLT, Int.reduceToNat, Int.reduceLE, Int.reduceEq, Int.reduceLT, Nat.reduceEqDiff, Nat.reduceAdd]
      refine CW_region ?_
      have xi : IntKind.i64.wrap ((t : Int) + 1) = ((t + 1 : Nat) : Int) := by rw [wr (by omega) (by omega)]; omega
      have hx1 : q.take (t + 1) = q.take t ++ [b] := by rw [List.take_add_one, hb]; rfl
      have hx3 : bytesV (q.take t) ++ [.int .u8 (b.toNat : Int)] = bytesV (q.take (t + 1)) := by rw [hx1]; simp [bytesV, byteV]
      have hlb : (bytesV (q.take t)).length = t := by simp [bytesV]; omega
      rcases hV with ⟨rfl, rfl, rfl⟩ | ⟨ht0, rfl, rfl⟩
      · have ha : aAppend Tryz.prog (ext m [some (some (.cells false 1 [.int .u8 (b.toNat : Int)]))]) 44 44 (.slice none 0 0) (.slice (some ⟨m.size + 0, 0, none⟩) 1 1) =
            some (.slice (some ⟨m.size + 1, 0, none⟩) 1 1, ext m [some (some (.cells false 1 [.int .u8 (b.toNat : Int)])), some (some (.cells false 1 [.int .u8 (b.toNat : Int)]))]) :=
          bapp_nil Tryz.underlying44 inf_u8 u8_zero u8_size rfl m _ (src_block Tryz.underlying44 (by rw [ext_get]; rfl) rfl) (by decide) (by rw [u8_bytes]; decide) (by decide)
        simp only [zZ, reduceIte, Nat.reduceLT, Int.reduceToNat, Int.reduceLE, Int.reduceEq, Int.reduceLT, Nat.reduceEqDiff, Nat.reduceAdd, zMn, zHex, e8, new_u1, List.nil_append, List.length_nil, ha]
        refine CW_region ?_
        simp only [zZ, reduceIte, Nat.reduceLT, Int.reduceToNat, Int.reduceLE, Int.reduceEq, Int.reduceLT, Nat.reduceEqDiff, Nat.reduceAdd, zMn, zHex, xi]
        refine ⟨_, rfl, [1], [0, 6, 15, 16], rfl, ?_⟩
        simp only [zZ, reduceIte, Nat.reduceLT, Int.reduceToNat, Int.reduceLE, Int.reduceEq, Int.reduceLT, Nat.reduceEqDiff, Nat.reduceAdd, zG]
        exact ⟨n - 1, ⟨0 + 1, _, by omega, rfl, .inr ⟨by omega, rfl, by rw [← hx3]; rfl⟩⟩, by omega⟩
      · have ha : aAppend Tryz.prog (ext m [some (some (.cells false 1 (bytesV (q.take t)))), some (some (.cells false 1 [.int .u8 (b.toNat : Int)]))]) 44 44 (.slice (some ⟨m.size + 0, 0, none⟩) t t) (.slice (some ⟨m.size + 1, 0, none⟩) 1 1) =
            some (.slice (some ⟨m.size + 2, 0, none⟩) (t + 1) (t + 1), ext m [some none, some (some (.cells false 1 [.int .u8 (b.toNat : Int)])), some (some (.cells false 1 (bytesV (q.take t) ++ [.int .u8 (b.toNat : Int)])))]) :=
          bapp Tryz.underlying44 inf_u8 u8_zero u8_size rfl m _ (src_block Tryz.underlying44 (by rw [ext_get]; rfl) rfl) (by decide) rfl (by rw [hlb]; omega) (by rw [u8_bytes]; omega) (by omega)
        rw [hx3] at ha
        simp only [zZ, reduceIte, Nat.reduceLT, Int.reduceToNat, Int.reduceLE, Int.reduceEq, Int.reduceLT, Nat.reduceEqDiff, Nat.reduceAdd, zMn, zHex, e8, new_u1, List.cons_append, List.nil_append, List.length_cons, List.length_nil, ha]
        refine CW_region ?_
        simp only [zZ, reduceIte, Nat.reduceLT, Int.reduceToNat, Int.reduceLE, Int.reduceEq, Int.reduceLT, Nat.reduceEqDiff, Nat.reduceAdd, zMn, zHex, xi]
        refine ⟨_, rfl, [2], [0, 6, 15, 16], rfl, ?_⟩
        simp only [zZ, reduceIte, Nat.reduceLT, Int.reduceToNat, Int.reduceLE, Int.reduceEq, Int.reduceLT, Nat.reduceEqDiff, Nat.reduceAdd, zG, rb]
        exact ⟨n - 1, ⟨t + 1, _, by omega, rfl, .inr ⟨by omega, rfl, rfl⟩⟩, by omega⟩
    · have htl : t = N := by have := of_decide_eq_false h; omega
      subst htl
      simp only [zZ, reduceIte, Nat.reduceLT, Int.reduceToNat, Int.reduceLE, Int.reduceEq, Int.reduceLT, Nat.reduceEqDiff, Nat.reduceAdd]
      refine CW_seq (CW_region ?_)
      rcases hV with ⟨h0', rfl, rfl⟩ | ⟨ht0, rfl, rfl⟩
      · omega
      · simp only [zZ, reduceIte, Nat.reduceLT, Int.reduceToNat, Int.reduceLE, Int.reduceEq, Int.reduceLT, Nat.reduceEqDiff, Nat.reduceAdd, zMn, zHex]
        rw [to_str (ro := false) (st := 1) (l := q.take t) (by rw [ext_get]; rfl) (by rw [List.length_take]; omega)]
        simp only [zZ, reduceIte, Nat.reduceLT, Int.reduceToNat, Int.reduceLE, Int.reduceEq, Int.reduceLT, Nat.reduceEqDiff, Nat.reduceAdd, zMn, zHex]
        refine CW_ret ?_
        simp only [zZ, reduceIte, Nat.reduceLT, Int.reduceToNat, Int.reduceLE, Int.reduceEq, Int.reduceLT, Nat.reduceEqDiff, Nat.reduceAdd, zMn, zHex, bEnd, sAnswer, sAnswer.sRes]
        refine told_flat rfl ?_
        rw [List.take_of_length_le (by omega)]
end Go.Proofs.YtabffcplbjaklaaGreatDoor
namespace Go.Proofs.YtabffcplbjaklaaGreatDoor
open Go.RowKit Abs
theorem al_arr4 : nAlloc Tryz.prog 89 = some (.cells false (aStride Tryz.prog 89) [.int .i64 0, .int .i64 0, .int .i64 0, .int .i64 0]) := by kernel_rfl
theorem bld_Hdr (a b c d : Int) (s r t : ByteArray) : aBuild Tryz.prog 40 [(0, .int .i64 a), (2, .int .i64 b), (3, .int .i64 c), (4, .int .i64 d), (1, .string s), (5, .string r), (6, .string t)] = some (.agg #[.int .i64 a, .string s, .int .i64 b, .int .i64 c, .int .i64 d, .string r, .string t]) := by kernel_rfl
theorem hexV_full {l : List UInt8} (h : l ≠ []) : hexV l = hexL l := by unfold hexV; rw [if_neg h]
structure MayR (h : Header) : Prop where
  n : 0 ≤ h.n ∧ h.n ≤ 9999999999
  bytes : 0 ≤ h.bytes ∧ h.bytes ≤ 9999999999
  raw : 0 ≤ h.raw ∧ h.raw ≤ 9999999999
theorem mayR_of {h : Header} (hm : mayH h = true) : MayR h := by
  unfold mayH at hm
  simp only [Bool.and_eq_true, Bool.not_eq_true', decide_eq_false_iff_not, bne_eq_false_iff_eq, bsize_eq] at hm
  obtain ⟨⟨⟨⟨⟨⟨⟨⟨⟨h1, h2⟩, h3⟩, h4⟩, h5⟩, h6⟩, h7⟩, h8⟩, h9⟩, h10⟩ := hm
  exact ⟨⟨by omega, by omega⟩, ⟨by omega, by omega⟩, ⟨by omega, by omega⟩⟩
theorem mext_ext (b : Mem) (l k : List (Option (Option Blk))) : ext (ext b l) k = ext b (l ++ k) := by unfold ext; simp
def zeroH : List Value := [.int .i64 0, .string ⟨#[]⟩, .int .i64 0, .int .i64 0, .int .i64 0, .string ⟨#[]⟩, .string ⟨#[]⟩]
def arrV (h : Header) : Nat → List Value
  | 0 => [.int .i64 0, .int .i64 0, .int .i64 0, .int .i64 0]
  | 1 => [.int .i64 h.id, .int .i64 0, .int .i64 0, .int .i64 0]
  | 2 => [.int .i64 h.id, .int .i64 h.n, .int .i64 0, .int .i64 0]
  | 3 => [.int .i64 h.id, .int .i64 h.n, .int .i64 h.bytes, .int .i64 0]
  | _ => [.int .i64 h.id, .int .i64 h.n, .int .i64 h.bytes, .int .i64 h.raw]
set_option maxRecDepth 100000 in
set_option maxHeartbeats 4000000 in
theorem mread_spec (h : Header) (hm : mayH h = true) (m : Mem) :
    Abs.Spec Tryz.prog 31 [.string (str (lineV h))] m fun u M => u = .tuple #[.agg h.cells.toArray, .bool true] ∧ M = m := by
  refine Abs.Spec.walkB Tryz.func31 (by rfl) _ Tryz.results31 _ Tryz.ntmps31 (by simp) m [] (ext_nil m).symm 0 rfl (.inl rfl) ?_
  intro hc _
  have mb := may_of hm
  have mr := mayR_of hm
  have hal : nAlloc Tryz.prog 40 = some (.cells false (aStride Tryz.prog 40) zeroH) := al_Hdr
  have hal4 : nAlloc Tryz.prog 89 = some (.cells false (aStride Tryz.prog 89) (arrV h 0)) := al_arr4
  generalize aStride Tryz.prog 40 = s1 at hal
  generalize aStride Tryz.prog 89 = s4 at hal4
  have hlen : (lineV h).length ≤ 10000 := lineV_len h mb.idI mb.n mb.bytes mb.raw (by have := mb.salt; omega) (by have := mb.root; omega) (by have := mb.tag; omega)
  have zc32 : (⟨#[32]⟩ : ByteArray) = str [32] := rfl
  have hsp := msplit_spec (lineWords h) 32 (by simp [lineWords]) (words_free h 32 (.inr rfl)) (by show (lineV h).length ≤ _; omega)
  have hlv : Lib.join (lineWords h) [32] = lineV h := rfl
  have hl7 : (lineWords h).length = 7 := rfl
  rw [hlv, hl7] at hsp
  refine CW_seq (CW_region ?_)
  simp only [zZ, reduceIte, Nat.reduceLT, Int.reduceToNat, Int.reduceLE, Int.reduceEq, Int.reduceLT, Nat.reduceEqDiff, Nat.reduceAdd, zMn, hal]
  refine CW_seq (CW_region ?_)
  simp only [zZ, reduceIte, Nat.reduceLT, Int.reduceToNat, Int.reduceLE, Int.reduceEq, Int.reduceLT, Nat.reduceEqDiff, Nat.reduceAdd, zMn, zc32]
  refine ⟨by kernel_rfl, _, hsp _, ?_⟩
  rintro _ _ ⟨rfl, rfl⟩
  simp only [zZ, reduceIte, Nat.reduceLT, Int.reduceToNat, Int.reduceLE, Int.reduceEq, Int.reduceLT, Nat.reduceEqDiff, Nat.reduceAdd, zMn, mext_ext]
  refine CW_seq (CW_seq (CW_region ?_))
  have q7 : (((7 : Nat) : Int) != 7) = false := rfl
  have c7 : ((7 : Nat) : Int) = 7 := rfl
  simp only [zZ, reduceIte, Nat.reduceLT, Int.reduceToNat, Int.reduceLE, Int.reduceEq, Int.reduceLT, Nat.reduceEqDiff, Nat.reduceAdd, zMn, q7]
  refine CW_cond false (by rfl) (fun h => by cases h) (fun _ => CW_skip ?_)
  simp only [zZ, reduceIte, Nat.reduceLT, Int.reduceToNat, Int.reduceLE, Int.reduceEq, Int.reduceLT, Nat.reduceEqDiff, Nat.reduceAdd]
  refine CW_seq (CW_region ?_)
  simp only [zZ, reduceIte, Nat.reduceLT, Int.reduceToNat, Int.reduceLE, Int.reduceEq, Int.reduceLT, Nat.reduceEqDiff, Nat.reduceAdd, zMn, hal4]
  obtain ⟨W, hW⟩ : ∃ W, W = wC (lineWords h) := ⟨_, rfl⟩
  rw [← hW]
  have renW : ∀ (σ : Nat → Option Nat), renL (ren σ 4) W = some W := fun σ => renL_flat fun x hx => by
    rw [hW] at hx
    simp only [wC, List.mem_map] at hx
    obtain ⟨y, _, rfl⟩ := hx
    rfl
  have renA : ∀ (σ : Nat → Option Nat) (t : Nat), renL (ren σ 4) (arrV h t) = some (arrV h t) := fun σ t => renL_flat fun x hx => by
    unfold arrV at hx
    split at hx <;> (simp only [List.mem_cons, List.not_mem_nil, or_false] at hx; rcases hx with rfl | rfl | rfl | rfl <;> rfl)
  have renZ : ∀ (σ : Nat → Option Nat), renL (ren σ 4) zeroH = some zeroH := fun σ => renL_flat fun x hx => by
    simp only [zeroH, List.mem_cons, List.not_mem_nil, or_false] at hx
    rcases hx with rfl | rfl | rfl | rfl | rfl | rfl | rfl <;> rfl
  refine BW_mid hc (fun f l => f = [(0, .string (str (lineV h))), (2, .pointer (some ⟨m.size + 0, 0, none⟩)), (4, .slice (some ⟨m.size + 1, 0, none⟩) 7 7), (5, .pointer (some ⟨m.size + 2, 0, none⟩))] ∧ l = [some (some (.cells false s1 zeroH)), some (some (.cells false 1 W)), some (some (.cells false s4 (arrV h 4)))]) ?_ ?_
  · refine CW_seq (CW_region ?_)
    simp only [zZ, reduceIte, Nat.reduceLT, Int.reduceToNat, Int.reduceLE, Int.reduceEq, Int.reduceLT, Nat.reduceEqDiff, Nat.reduceAdd, zMn]
    refine CW_block (BW_loop hc (fun n f l => ∃ t : Nat, t + n = 4 ∧ f = [(0, .string (str (lineV h))), (2, .pointer (some ⟨m.size + 0, 0, none⟩)), (4, .slice (some ⟨m.size + 1, 0, none⟩) 7 7), (5, .pointer (some ⟨m.size + 2, 0, none⟩)), (22, .int .i64 (t : Nat))] ∧ l = [some (some (.cells false s1 zeroH)), some (some (.cells false 1 W)), some (some (.cells false s4 (arrV h t)))]) 4 ?_ ?_)
    · refine ⟨_, rfl, [0, 1, 2], [0, 2, 4, 5, 22], rfl, ?_⟩
      simp only [zZ, reduceIte, Nat.reduceLT, Int.reduceToNat, Int.reduceLE, Int.reduceEq, Int.reduceLT, Nat.reduceEqDiff, Nat.reduceAdd, zG, renW, renA, renZ]
      exact ⟨0, by omega, rfl, rfl⟩
    · rintro n f l ⟨t, htn, rfl, rfl⟩
      refine CW_seq (CW_region ?_)
      simp only [zZ, reduceIte, Nat.reduceLT, Int.reduceToNat, Int.reduceLE, Int.reduceEq, Int.reduceLT, Nat.reduceEqDiff, Nat.reduceAdd, zMn]
      refine CW_seq (CW_cond (decide ((t : Int) < 4)) (by rfl) (fun hq => CW_skip ?_) (fun hq => CW_exit ?_))
      · have h4 := of_decide_eq_true hq
        have ht : t = 0 ∨ t = 1 ∨ t = 2 ∨ t = 3 := by omega
        obtain ⟨v, hv0, hv1, hcell, hset, hlen4⟩ : ∃ v : Int, 0 ≤ v ∧ v ≤ 9999999999 ∧ W[t]? = some (.string (str (Lib.itoa v))) ∧ setL (arrV h t) t [.int .i64 v] = arrV h (t + 1) ∧ (arrV h t).length = 4 := by
          rcases ht with rfl | rfl | rfl | rfl
          · exact ⟨h.id, by have := mb.id; omega, by have := mb.id; omega, by rw [hW]; rfl, rfl, rfl⟩
          · exact ⟨h.n, mr.n.1, mr.n.2, by rw [hW]; rfl, rfl, rfl⟩
          · exact ⟨h.bytes, mr.bytes.1, mr.bytes.2, by rw [hW]; rfl, rfl, rfl⟩
          · exact ⟨h.raw, mr.raw.1, mr.raw.2, by rw [hW]; rfl, rfl, rfl⟩
        have z0 : (0 : Int) ≤ (t : Int) := by omega
        have z7 : (t : Int) < ((7 : Nat) : Int) := by omega
        have z4 : (t : Int) < ((4 : Nat) : Int) := by omega
        have hput : putIn 1 (ext m [some (some (.cells false s1 zeroH)), some (some (.cells false 1 W)), some (some (.cells false s4 (arrV h t)))]) (m.size + 2) t [.int .i64 v] (some (.cells false s4 (arrV h t))) = some (ext m [some (some (.cells false s1 zeroH)), some (some (.cells false 1 W)), some (some (.cells false s4 (arrV h (t + 1))))]) := by
          simp only [putIn]
          rw [if_pos ⟨rfl, by rw [hlen4]; show t + 1 ≤ 4; omega, rfl⟩, hset, ext_set]
          rfl
        have xi : IntKind.i64.wrap ((t : Int) + 1) = ((t + 1 : Nat) : Int) := by rw [wr (by omega) (by omega)]; omega
        simp only [zZ, reduceIte, Nat.reduceLT, Int.reduceToNat, Int.reduceLE, Int.reduceEq, Int.reduceLT, Nat.reduceEqDiff, Nat.reduceAdd]
        refine CW_seq (CW_block (CW_seq (CW_region ?_)))
        simp only [zZ, reduceIte, Nat.reduceLT, Int.reduceToNat, Int.reduceLE, Int.reduceEq, Int.reduceLT, Nat.reduceEqDiff, Nat.reduceAdd, zMn]
        refine CW_seq (CW_region ?_)
        simp only [zZ, reduceIte, Nat.reduceLT, Int.reduceToNat, Int.reduceLE, Int.reduceEq, Int.reduceLT, Nat.reduceEqDiff, Nat.reduceAdd, zMn, z0, z7, and_self, hcell]
        refine ⟨by kernel_rfl, _, matoi_spec v hv0 hv1 _, ?_⟩
        rintro _ _ ⟨rfl, rfl⟩
        simp only [zZ, reduceIte, Nat.reduceLT, Int.reduceToNat, Int.reduceLE, Int.reduceEq, Int.reduceLT, Nat.reduceEqDiff, Nat.reduceAdd, zMn]
        refine CW_seq (CW_seq (CW_region ?_))
        simp only [zZ, reduceIte, Nat.reduceLT, Int.reduceToNat, Int.reduceLE, Int.reduceEq, Int.reduceLT, Nat.reduceEqDiff, Nat.reduceAdd, zMn, neq_nil]
        refine CW_cond false (by rfl) (fun h => by cases h) (fun _ => CW_skip ?_)
        simp only [zZ, reduceIte, Nat.reduceLT, Int.reduceToNat, Int.reduceLE, Int.reduceEq, Int.reduceLT, Nat.reduceEqDiff, Nat.reduceAdd]
        refine CW_region ?_
        simp only [zZ, reduceIte, Nat.reduceLT, Int.reduceToNat, Int.reduceLE, Int.reduceEq, Int.reduceLT, Nat.reduceEqDiff, Nat.reduceAdd, zMn, z0, z4, and_self, Int.toNat_natCast, hput]
        refine CW_region ?_
        simp only [zZ, reduceIte, Nat.reduceLT, Int.reduceToNat, Int.reduceLE, Int.reduceEq, Int.reduceLT, Nat.reduceEqDiff, Nat.reduceAdd, zMn, xi]
        refine ⟨_, rfl, [0, 1, 2], [0, 2, 4, 5, 22], rfl, ?_⟩
        simp only [zZ, reduceIte, Nat.reduceLT, Int.reduceToNat, Int.reduceLE, Int.reduceEq, Int.reduceLT, Nat.reduceEqDiff, Nat.reduceAdd, zG, renW, renA, renZ]
        exact ⟨n - 1, ⟨t + 1, by omega, rfl, rfl⟩, by omega⟩
      · have h4 := of_decide_eq_false hq
        have ht : t = 4 := by omega
        subst ht
        refine ⟨_, rfl, [0, 1, 2], [0, 2, 4, 5], rfl, ?_⟩
        simp only [zZ, reduceIte, Nat.reduceLT, Int.reduceToNat, Int.reduceLE, Int.reduceEq, Int.reduceLT, Nat.reduceEqDiff, Nat.reduceAdd, zG, renW, renA, renZ]
        try exact ⟨rfl, rfl⟩
  · rintro f l ⟨rfl, rfl⟩
    have e4 : hexV h.salt.data.toList = hexL h.salt.data.toList := hexV_full fun e => by
      have := mb.salt
      have e2 : h.salt.data.toList.length = h.salt.size := rfl
      rw [e] at e2; simp at e2; omega
    have e5 : hexV h.root.data.toList = hexL h.root.data.toList := hexV_full fun e => by
      have := mb.root
      have e2 : h.root.data.toList.length = h.root.size := rfl
      rw [e] at e2; simp at e2; omega
    have e6 : hexV h.tag.data.toList = hexL h.tag.data.toList := hexV_full fun e => by
      have := mb.tag
      have e2 : h.tag.data.toList.length = h.tag.size := rfl
      rw [e] at e2; simp at e2; omega
    have g4 : W[4]? = some (.string (str (hexL h.salt.data.toList))) := by rw [hW, ← e4]; rfl
    have g5 : W[5]? = some (.string (str (hexL h.root.data.toList))) := by rw [hW, ← e5]; rfl
    have g6 : W[6]? = some (.string (str (hexL h.tag.data.toList))) := by rw [hW, ← e6]; rfl
    have s4' : (4 : Int) < ((7 : Nat) : Int) := by omega
    have s5' : (5 : Int) < ((7 : Nat) : Int) := by omega
    have s6' : (6 : Int) < ((7 : Nat) : Int) := by omega
    have u4 := munhex_spec h.salt.data.toList 16 mb.salt (by decide) (by decide)
    have u5 := munhex_spec h.root.data.toList 32 mb.root (by decide) (by decide)
    have u6 := munhex_spec h.tag.data.toList 32 mb.tag (by decide) (by decide)
    have k4 : str h.salt.data.toList = h.salt := rfl
    have k5 : str h.root.data.toList = h.root := rfl
    have k6 : str h.tag.data.toList = h.tag := rfl
    rw [k4] at u4
    rw [k5] at u5
    rw [k6] at u6
    refine CW_seq (CW_region ?_)
    simp only [zZ, reduceIte, Nat.reduceLT, Int.reduceToNat, Int.reduceLE, Int.reduceEq, Int.reduceLT, Nat.reduceEqDiff, Nat.reduceAdd, zMn, s4', and_self, g4]
    refine ⟨by kernel_rfl, _, u4 _, ?_⟩
    rintro _ _ ⟨rfl, rfl⟩
    simp only [zZ, reduceIte, Nat.reduceLT, Int.reduceToNat, Int.reduceLE, Int.reduceEq, Int.reduceLT, Nat.reduceEqDiff, Nat.reduceAdd, zMn]
    refine CW_seq (CW_region ?_)
    simp only [zZ, reduceIte, Nat.reduceLT, Int.reduceToNat, Int.reduceLE, Int.reduceEq, Int.reduceLT, Nat.reduceEqDiff, Nat.reduceAdd, zMn, s5', and_self, g5]
    refine ⟨by kernel_rfl, _, u5 _, ?_⟩
    rintro _ _ ⟨rfl, rfl⟩
    simp only [zZ, reduceIte, Nat.reduceLT, Int.reduceToNat, Int.reduceLE, Int.reduceEq, Int.reduceLT, Nat.reduceEqDiff, Nat.reduceAdd, zMn]
    refine CW_seq (CW_region ?_)
    simp only [zZ, reduceIte, Nat.reduceLT, Int.reduceToNat, Int.reduceLE, Int.reduceEq, Int.reduceLT, Nat.reduceEqDiff, Nat.reduceAdd, zMn, s6', and_self, g6]
    refine ⟨by kernel_rfl, _, u6 _, ?_⟩
    rintro _ _ ⟨rfl, rfl⟩
    simp only [zZ, reduceIte, Nat.reduceLT, Int.reduceToNat, Int.reduceLE, Int.reduceEq, Int.reduceLT, Nat.reduceEqDiff, Nat.reduceAdd, zMn]
    refine CW_seq (CW_region ?_)
    have i0 : (0 : Int) < ((4 : Nat) : Int) := by omega
    have i1 : (1 : Int) < ((4 : Nat) : Int) := by omega
    have i2 : (2 : Int) < ((4 : Nat) : Int) := by omega
    have i3 : (3 : Int) < ((4 : Nat) : Int) := by omega
    obtain ⟨A4, hA4⟩ : ∃ A4, A4 = arrV h 4 := ⟨_, rfl⟩
    have j0 : A4[0]? = some (.int .i64 h.id) := by rw [hA4]; rfl
    have j1 : A4[1]? = some (.int .i64 h.n) := by rw [hA4]; rfl
    have j2 : A4[2]? = some (.int .i64 h.bytes) := by rw [hA4]; rfl
    have j3 : A4[3]? = some (.int .i64 h.raw) := by rw [hA4]; rfl
    rw [← hA4]
    have hcl : [Value.int IntKind.i64 h.id, Value.string h.salt, Value.int IntKind.i64 h.n, Value.int IntKind.i64 h.bytes, Value.int IntKind.i64 h.raw, Value.string h.root, Value.string h.tag] = h.cells := rfl
    have hca : #[Value.int IntKind.i64 h.id, Value.string h.salt, Value.int IntKind.i64 h.n, Value.int IntKind.i64 h.bytes, Value.int IntKind.i64 h.raw, Value.string h.root, Value.string h.tag] = h.cells.toArray := rfl
    have hput7 : putIn 7 (ext m [some (some (.cells false s1 zeroH)), some (some (.cells false 1 W)), some (some (.cells false s4 A4)), some (some (.cells false s1 zeroH))]) (m.size + 3) 0 h.cells (some (.cells false s1 zeroH)) =
        some (ext m [some (some (.cells false s1 zeroH)), some (some (.cells false 1 W)), some (some (.cells false s4 A4)), some (some (.cells false s1 h.cells))]) := by
      simp only [putIn]
      rw [if_pos ⟨rfl, (show 0 + 7 ≤ 7 by decide), rfl⟩, ext_set]
      rfl
    have hput7' : putIn 7 (ext m [some (some (.cells false s1 zeroH)), some (some (.cells false 1 W)), some (some (.cells false s4 A4)), some (some (.cells false s1 h.cells))]) (m.size + 0) 0 h.cells (some (.cells false s1 zeroH)) =
        some (ext m [some (some (.cells false s1 h.cells)), some (some (.cells false 1 W)), some (some (.cells false s4 A4)), some (some (.cells false s1 h.cells))]) := by
      simp only [putIn]
      rw [if_pos ⟨rfl, (show 0 + 7 ≤ 7 by decide), rfl⟩, ext_set]
      rfl
    have rx : rowIn 7 0 (some (.cells false s1 h.cells)) = some (.agg h.cells.toArray) := rfl
    simp only [zZ, reduceIte, Nat.reduceLT, Int.reduceToNat, Int.reduceLE, Int.reduceEq, Int.reduceLT, Nat.reduceEqDiff, Nat.reduceAdd, zMn, i0, i1, i2, i3, and_self, j0, j1, j2, j3, bld_Hdr, hal, hcl, hput7]
    refine CW_seq (CW_draw7 hmix 19 [16, 17, 18] (by kernel_rfl) ?_)
    have hchk : Abs.Spec Tryz.prog 43 [.agg h.cells.toArray] (ext m [some (some (.cells false s1 zeroH)), some (some (.cells false 1 W)), some (some (.cells false s4 A4)), some (some (.cells false s1 h.cells))]) fun u M => u = .int .i64 0 ∧ M = ext m [some (some (.cells false s1 zeroH)), some (some (.cells false 1 W)), some (some (.cells false s4 A4)), some (some (.cells false s1 h.cells))] := by
      have := hcheck_spec h (ext m [some (some (.cells false s1 zeroH)), some (some (.cells false 1 W)), some (some (.cells false s4 A4)), some (some (.cells false s1 h.cells))])
      rw [hm] at this
      exact this
    have hln := line_spec h mb.idI mb.n mb.bytes mb.raw (by have := mb.salt; omega) (by have := mb.root; omega) (by have := mb.tag; omega)
    obtain ⟨S, hS⟩ : ∃ S, S = str (lineV h) := ⟨_, rfl⟩
    have hbq : beqB S S = true := by rw [beqB_dec]; exact decide_eq_true rfl
    have q0 : ((0 : Int) == 0) = true := rfl
    rw [← hS] at hln ⊢
    simp only [zZ, reduceIte, Nat.reduceLT, Int.reduceToNat, Int.reduceLE, Int.reduceEq, Int.reduceLT, Nat.reduceEqDiff, Nat.reduceAdd, zMn, rx]
    refine ⟨by kernel_rfl, _, hchk, ?_⟩
    refine ⟨by decide, ?_⟩
    simp only [zZ, reduceIte, Nat.reduceLT, Int.reduceToNat, Int.reduceLE, Int.reduceEq, Int.reduceLT, Nat.reduceEqDiff, Nat.reduceAdd, zMn, rx, q0]
    refine ⟨by kernel_rfl, _, hln _, ?_⟩
    refine ⟨by decide, ?_⟩
    simp only [zZ, reduceIte, Nat.reduceLT, Int.reduceToNat, Int.reduceLE, Int.reduceEq, Int.reduceLT, Nat.reduceEqDiff, Nat.reduceAdd, zMn, sQB7, idleOK7, Option.bind_some, rx, hbq, agg_cells, List.toList_toArray, hput7']
    refine ⟨⟨⟨_, rfl, rfl⟩, ⟨_, rfl, rfl⟩, ⟨_, rfl, rfl⟩⟩, ?_⟩
    refine CW_ret ?_
    simp only [zZ, reduceIte, Nat.reduceLT, Int.reduceToNat, Int.reduceLE, Int.reduceEq, Int.reduceLT, Nat.reduceEqDiff, Nat.reduceAdd, zMn, bEnd, sAnswer, sAnswer.sRes, aLoad_g, rx]
    exact told_flat (show flat 4 (.tuple #[.agg h.cells.toArray, .bool true]) = true from rfl) rfl
end Go.Proofs.YtabffcplbjaklaaGreatDoor
namespace Go.Proofs.YtabffcplbjaklaaGreatDoor.Abs
open Go Go.RowKit
theorem bld_size : (Tryz.prog.info? 46).map (·.size) = some 2 := by kernel_rfl
theorem bld_lies : liesAt Tryz.prog Tryz.prog.depth 46 (2 / Tryz.prog.cellsOf 46) 0 46 1 = true := by kernel_rfl
set_option maxHeartbeats 1000000 in
set_option maxRecDepth 100000 in
theorem copy_used (b : Nat) (w : World) (h0 : w.cell? ⟨b, 0, none⟩ = some (.pointer (some ⟨b, 0, none⟩))) :
    Calls Tryz.prog 44 #[.pointer (some ⟨b, 0, none⟩)] w fun e w' => e = .returned (.tuple #[]) ∧ w' = w := by
  obtain ⟨j, hj, _⟩ := Option.map_eq_some_iff.1 bld_size
  go_enter Tryz.func44, Tryz.ntmps44
  go_wp2
  rw [Lib.run_neq_ptr_same w _ Tryz.underlying43 hj]
  go_wp2
  go_end0
  exact ⟨rfl, rfl⟩
set_option maxHeartbeats 1000000 in
set_option maxRecDepth 100000 in
theorem copy_fresh (b : Nat) (w : World) (h0 : w.cell? ⟨b, 0, none⟩ = some (.pointer none)) (hsh : w.shape? b = some (46, 2)) (hfz : w.frozen? ⟨b, 0, none⟩ = false) :
    Calls Tryz.prog 44 #[.pointer (some ⟨b, 0, none⟩)] w fun e w' => e = .returned (.tuple #[]) ∧ w' = w.setCell ⟨b, 0, none⟩ (.pointer (some ⟨b, 0, none⟩)) := by
  obtain ⟨j, hj, hjs⟩ := Option.map_eq_some_iff.1 bld_size
  go_enter Tryz.func44, Tryz.ntmps44
  go_wp2
  rw [Lib.run_to_unsafe w ⟨b, 0, none⟩ Tryz.underlying43 Tryz.underlying93 hj (by rw [hjs]; decide) hsh (Nat.zero_lt_succ 1)]
  simp only [Result.andThen]
  rw [Oper.upon_value]
  go_wp2
  rw [run_callFunc_extern Tryz.func65 (by kernel_rfl) (by kernel_rfl) (by kernel_rfl) (e := Extern.AbiNoEscape.same) (by kernel_rfl)]
  rw [Lib.run_noEscape]
  simp only [Result.andThen]
  rw [Oper.upon_value]
  go_wp2
  rw [Lib.run_from_unsafe w ⟨b, 0, none⟩ Tryz.underlying93 Tryz.underlying43 hj hsh bld_lies]
  simp only [Result.andThen]
  rw [Oper.upon_value]
  go_wp2
  go_end0
  exact ⟨rfl, rfl⟩
def BufAt (K p : Nat) (M : Mem) (V : Value) (l : List UInt8) : Prop :=
  (l = [] ∧ V = .slice none 0 0) ∨ (l ≠ [] ∧ ∃ g rest, K ≤ g ∧ g ≠ p ∧ V = .slice (some ⟨g, 0, none⟩) l.length (l.length + rest.length) ∧ l.length + rest.length ≤ maxLen ∧ M.get g = some (.cells false bufS (bytesV l ++ rest)))
theorem bytesV_cells (s : ByteArray) : byteCells' s = bytesV s.data.toList := rfl
theorem bytesV_flat (l : List UInt8) : ∀ v ∈ bytesV l, flat 3 v = true := fun v hv => by
  unfold bytesV at hv
  rw [List.mem_map] at hv
  obtain ⟨x, _, rfl⟩ := hv
  rfl
theorem flats_self {n : Nat → Prop} {ι : Nat → Loc} {cs : List Value} (h : ∀ v ∈ cs, flat 3 v = true) : VRels n ι cs cs := ⟨rfl, fun i x y hx hy => by
  rw [hx] at hy; cases hy
  exact flat_rel 3 _ (h _ (List.mem_of_getElem? hx))⟩
theorem zeroB_list (n : Nat) : (Builtin.zeroCells (Value.int .u8 0).cells n).toList = List.replicate n (.int .u8 0) := by
  have e : (Value.int .u8 0).cells = #[.int .u8 0] := rfl
  rw [e]
  unfold Builtin.zeroCells
  apply List.ext_getElem?
  intro i
  simp only [Array.toList_map, Array.toList_range, List.getElem?_map, List.getElem?_replicate]
  by_cases hi : i < n
  · simp [hi, Nat.mod_one]
  · simp [hi]
theorem setL_tail (a r v : List Value) (h : v.length ≤ r.length) : setL (a ++ r) a.length v = a ++ v ++ r.drop v.length := by
  apply List.ext_getElem?
  intro i
  rw [setL_get _ _ _ _ (by rw [List.length_append]; omega)]
  by_cases h1 : i < a.length
  · rw [if_neg (by omega), List.append_assoc, List.getElem?_append_left h1, List.getElem?_append_left h1]
  · by_cases h2 : i < a.length + v.length
    · rw [if_pos (by omega), List.append_assoc, List.getElem?_append_right (by omega), List.getElem?_append_left (by omega)]
    · rw [if_neg (by omega), List.append_assoc, List.getElem?_append_right (by omega), List.getElem?_append_right (by omega), List.getElem?_append_right (by omega), List.getElem?_drop]
      congr 1; omega
section
variable {P : Program} {ι : Nat → Loc} {M : Mem} {w : World} {t tx ty e : TypeId} {i : TypeInfo}
theorem bufNew (h : Rel ι M w) (hbt : bufT = some e) {K p cap : Nat} {l : List UInt8} {C : Array Value} (hK : K ≤ M.size) (hp : p < M.size) (hl0 : l ≠ []) (hcap : l.length ≤ cap) (hmx : cap ≤ maxLen)
    (hC : C.toList = bytesV l ++ List.replicate (cap - l.length) (.int .u8 0)) :
    ∃ κ M' V2, VRel M'.Has κ V2 (.slice (some ⟨w.heap.size, 0, none⟩) l.length cap) ∧ Rel κ M' (w.drew.alloc (.cells C e)) ∧ Step ι M w κ M' (w.drew.alloc (.cells C e)) ∧ BufAt K p M' V2 l ∧
      (∀ b x, (b < K ∨ b = p) → M.get b = some x → M'.get b = some x) ∧ (∀ b st cs, M.get b = some (.cells true st cs) → M'.get b = some (.cells true st cs)) ∧ M.size ≤ M'.size := by
  have hfl : ∀ v ∈ C.toList, flat 3 v = true := fun v hv => by
    rw [hC, List.mem_append] at hv
    rcases hv with hv | hv
    · exact bytesV_flat _ v hv
    · rw [(List.mem_replicate.1 hv).2]; rfl
  have hone : oneAll C.toList = true := by
    simp only [oneAll, List.all_eq_true]
    intro v hv
    rw [hC, List.mem_append] at hv
    rcases hv with hv | hv
    · unfold bytesV at hv
      rw [List.mem_map] at hv
      obtain ⟨x, _, rfl⟩ := hv
      rfl
    · rw [(List.mem_replicate.1 hv).2]; rfl
  have hCs : C.size = cap := by
    have := congrArg List.length hC
    rw [Array.length_toList, List.length_append, List.length_replicate] at this
    have hb : (bytesV l).length = l.length := by simp [bytesV]
    omega
  obtain ⟨hR, hS⟩ := h.newCells (cs := C.toList) (rest := []) (OneMore.drewAlloc w (.cells C e)) bufS (flats_self hfl).whole (by simp) hone (.inl rfl)
    ⟨fun h0 => absurd h0 (by decide), fun _ _ _ => ⟨hbt, rfl, by rw [hCs]; unfold maxLen at hmx; unfold bufS; omega⟩⟩
  refine ⟨_, _, .slice (some ⟨M.size, 0, none⟩) l.length cap, newSlice _ ⟨w.heap.size, 0, _, bufS⟩ _ _ _ hcap (.inl rfl), hR, hS, .inr ⟨hl0, M.size, List.replicate (cap - l.length) (.int .u8 0), hK, by omega, ?_, ?_, ?_⟩, ?_, ?_, ?_⟩
  · rw [List.length_replicate]; congr 1; omega
  · rw [List.length_replicate]; omega
  · rw [Mem.get_push_new, hC]
  · intro b x _ hb
    rw [Mem.get_push_old (Mem.get_lt hb)]; exact hb
  · intro b st cs hb
    rw [Mem.get_push_old (Mem.get_lt hb)]; exact hb
  · rw [Mem.size_push]; omega
theorem bufApp_run (h : Rel ι M w) (ht : P.underlying t = some (.slice e)) (hx : P.underlying tx = some .string) (hbt : bufT = some e) (hi : P.info? e = some i) (hz : i.zero = some (.int .u8 0)) (hs : i.size = 1) (hb : i.bytes = 1)
    {K p : Nat} {V V' : Value} {l : List UInt8} (hK : K ≤ M.size) (hp : p < M.size) (hV : BufAt K p M V l) (hVV : VRel M.Has ι V V') (s : ByteArray) (hlen : l.length + s.size ≤ 140737488355328) :
    ∃ v' w' κ M' V2, (Builtin.append_ #[t, tx] ty #[V', .string s]).run P w = .ok v' w' ∧ VRel M'.Has κ V2 v' ∧ Rel κ M' w' ∧ Step ι M w κ M' w' ∧ BufAt K p M' V2 (l ++ s.data.toList) ∧
      (∀ b x, (b < K ∨ b = p) → M.get b = some x → M'.get b = some x) ∧ (∀ b st cs, M.get b = some (.cells true st cs) → M'.get b = some (.cells true st cs)) ∧ M.size ≤ M'.size := by
  have hsrc : Src P i.size tx (.string s) s.size (byteCells' s) w := by rw [hs]; exact Src.ofString w hx s
  have hsl : (byteCells' s).length = s.size := byteCells'_length s
  have hz1 : (Value.int .u8 0).cells.toList.length = i.size := by rw [hs]; rfl
  have hsd : s.data.toList.length = s.size := by simp
  have hbl : (bytesV l).length = l.length := by simp [bytesV]
  by_cases hn : s.size = 0
  · -- nothing
    have hs0 : s.data.toList = [] := List.eq_nil_of_length_eq_zero (by omega)
    refine ⟨V', w, ι, M, V, ?_, hVV, h, Step.refl _ _ _, by rw [hs0, List.append_nil]; exact hV, fun _ _ _ h => h, fun _ _ _ h => h, Nat.le_refl _⟩
    have hus : byteCells' s = [] := List.eq_nil_of_length_eq_zero (by omega)
    rw [hus, hn] at hsrc
    rcases hV with ⟨_, rfl⟩ | ⟨_, g, rest, _, _, rfl, _⟩
    · cases hVV
      rcases hsrc.kind with ⟨e', hk⟩ | hk <;> simp [Builtin.append_, run_underlying ht, run_underlying hk, run_sizeOf' hi, hsrc.len, hsrc.cells]
    · have hsame : ∀ (a : Addr) (k cap' : Nat), k ≤ cap' → (Builtin.append_ #[t, tx] ty #[.slice (some a) k cap', .string s]).run P w = .ok (.slice (some a) k cap') w := by
        intro a k cap' hle
        rcases hsrc.kind with ⟨e', hk⟩ | hk <;> simp [Builtin.append_, run_underlying ht, run_underlying hk, run_sizeOf' hi, hsrc.len, hsrc.cells, hle, storeCells]
      generalize l.length = k at hVV
      generalize k + rest.length = c at hVV
      cases hVV with
      | slice _ _ _ _ cap' hlt hl hc => exact hsame _ _ _ (by rcases hc with hc | hc <;> omega)
      | empty _ _ o' hlt => exact hsame _ _ _ (Nat.le_refl _)
  have hne : l ++ s.data.toList ≠ [] := by
    intro h0
    have := congrArg List.length h0
    rw [List.length_append, hsd, List.length_nil] at this
    omega
  have hall : (l ++ s.data.toList).length = l.length + s.size := by rw [List.length_append, hsd]
  have hbv : bytesV (l ++ s.data.toList) = bytesV l ++ byteCells' s := by rw [bytesV_cells]; simp [bytesV]
  rcases hV with ⟨rfl, rfl⟩ | ⟨hl0, g, rest, hKg, hgp, rfl, hcm, hg⟩
  · cases hVV
    have hg := run_append_grow_src (P := P) w t tx ty e i _ ht hi hz none 0 0 [] (run_firstCells_none w.drew i.size 0 0 0) (.string s) s.size (byteCells' s) hsrc (by omega) (by omega) (growslice_fits (by omega) (by rw [hb]; simp only [List.length_nil] at hlen; omega))
    rw [Nat.zero_add] at hg
    have hmx := grownCap_le_maxLen w s.size 0 e (by simp only [maxLen]; omega)
    have hge := grownCap_ge w s.size 0 e
    generalize grownCap w s.size 0 e = cap at hg hmx hge
    obtain ⟨κ, M', V2, g1, g2⟩ := bufNew h hbt (K := K) (p := p) (cap := cap) (l := s.data.toList) (C := ([] ++ byteCells' s).toArray ++ Builtin.zeroCells (Value.int .u8 0).cells (cap - s.size)) hK hp (by simpa using hne) (by omega) hmx
      (by rw [Array.toList_append, zeroB_list, hsd]; rfl)
    rw [hsd] at g1
    exact ⟨_, _, κ, M', V2, hg, g1, g2⟩
  · obtain ⟨C, eC, fz, hC, hsz, hst, hlen', hv, hfz⟩ := h.at' g false bufS _ hg
    have hcl : (bytesV l ++ rest).length = l.length + rest.length := by rw [List.length_append, hbl]
    have hl1 : 0 < l.length := List.length_pos_iff.2 hl0
    obtain ⟨t1, t2, t3⟩ := hst.tag.2 rfl (by omega) (by rw [hcl]; unfold maxLen at hcm; unfold bufS; omega)
    have hol := (VRels.toL hlen' fun j v hi => (hv j v hi).2)
    have hstr := hst.eq
    generalize hkk : l.length = k at *
    generalize hcc : k + rest.length = c at *
    cases hVV with
    | empty _ _ o' hlt => omega
    | slice _ _ _ _ cap' hlt hl hc =>
      have hcap : cap' = c := by
        rcases hc with hc | ⟨hc1, hc2, _⟩
        · exact hc
        · exfalso
          rw [hstr] at hc2
          have : 1 * bufS ≤ cap' * bufS := Nat.mul_le_mul_right _ (by omega)
          omega
      subst hcap
      by_cases hroom : k + s.size ≤ cap'
      · have hw := h.write hg k (byteCells' s) (byteCells' s) (by rw [hcl, hsl]; omega) (oneAll_spec (byteCells'_one s)) (byteCells'_rel s _)
        have hset : setL (bytesV l ++ rest) k (byteCells' s) = bytesV (l ++ s.data.toList) ++ rest.drop s.size := by
          have := setL_tail (bytesV l) rest (byteCells' s) (by rw [hsl]; omega)
          rw [hbl] at this
          rw [this, hbv, hsl]
        rw [hset] at hw
        have hrun := run_append_room_src (P := P) w t tx ty e i ht hi (ι g).blk ((ι g).base + 0) k cap' (.string s) s.size (byteCells' s) hsrc hroom
          (fun j hj => by rw [hs, Nat.mul_one, cell_of_block hC]; simp; omega) (fun j hj => by rw [hs, Nat.mul_one]; exact frozen_of_block hC (hfz rfl _ (by omega)))
        rw [hs, Nat.mul_one, Nat.add_zero] at hrun
        refine ⟨_, _, ι, _, .slice (some ⟨g, 0, none⟩) (k + s.size) cap', hrun, .slice g 0 (k + s.size) cap' cap' (Mem.has_set _ hlt) hroom (.inl rfl), hw.1, hw.2, .inr ⟨hne, g, rest.drop s.size, hKg, hgp, ?_, ?_, Mem.get_set_same hg _⟩, ?_, ?_, ?_⟩
        · rw [hall, List.length_drop]; congr 1; omega
        · rw [hall, List.length_drop]; omega
        · intro b x hbk hbx
          rw [Mem.get_set_ne (by rintro rfl; rcases hbk with hbk | hbk <;> omega)]; exact hbx
        · intro b st cs hbx
          rw [Mem.get_set_ne (by rintro rfl; rw [hg] at hbx; cases hbx)]; exact hbx
        · rw [Mem.size_set]; exact Nat.le_refl _
      · have hcell : ∀ j u, (bytesV l)[j]? = some u → w.cell? ((⟨(ι g).blk, (ι g).base + 0, none⟩ : Addr).add j) = some u := by
          intro j u hj
          have hjl := (List.getElem?_eq_some_iff.1 hj).1
          obtain ⟨_, u', h8, h9⟩ := hv j u (by rw [List.getElem?_append_left hjl]; exact hj)
          have := flat_eq 3 _ _ (bytesV_flat l u (List.mem_of_getElem? hj)) h9
          subst this
          rw [Addr_add, cell_of_block hC, Nat.add_zero]
          exact h8
        have hg2 := run_append_grow_src (P := P) w t tx ty e i _ ht hi hz (some ⟨(ι g).blk, (ι g).base + 0, none⟩) k cap' (bytesV l) (run_firstCells_some w.drew i.size k _ k cap' (bytesV l) (by rw [hs, hbl, Nat.mul_one]) hcell) (.string s) s.size (byteCells' s) hsrc (by omega) (by omega) (growslice_fits (by omega) (by rw [hb]; omega))
        have hmx := grownCap_le_maxLen w (k + s.size) cap' e (by simp only [maxLen]; omega)
        have hge := grownCap_ge w (k + s.size) cap' e
        generalize grownCap w (k + s.size) cap' e = cap at hg2 hmx hge
        obtain ⟨κ, M', V2, g1, g2⟩ := bufNew h hbt (K := K) (p := p) (cap := cap) (l := l ++ s.data.toList) (C := (bytesV l ++ byteCells' s).toArray ++ Builtin.zeroCells (Value.int .u8 0).cells (cap - (k + s.size))) hK hp hne (by omega) hmx
          (by rw [Array.toList_append, zeroB_list, hall, hbv])
        rw [hall] at g1
        exact ⟨_, _, κ, M', V2, hg2, g1, g2⟩
end
def BAt (K : Nat) (M : Mem) (p : Nat) (l : List UInt8) : Prop :=
  K ≤ p ∧ ∃ a V, M.get p = some (.cells false 0 [a, V]) ∧ (a = .pointer none ∨ a = .pointer (some ⟨p, 0, none⟩)) ∧ BufAt K p M V l
theorem inf_byte : Tryz.prog.info? 5 = some Tryz.t5 := by kernel_rfl
theorem wpList_append_run {P : Program} {w : World} {ops : Array Oper} {rest : List Oper} {o : Oper} {a : Act} {Q : Exit → Act → World → Prop} (hgd : o.guard = none) (d s : Operand) (dT sT : TypeId)
    (ho : o.op = .call { callee := .builtin .append, args := #[d, s], argTypes := #[dT, sT] }) (x y v : Value) (w' : World) (hd : a.eval d = x) (hs : a.eval s = y)
    (hr : (Builtin.append_ #[dT, sT] o.type #[x, y]).run P w = .ok v w') (h : wpList P ops Q rest (a.put o.dst v) w') : wpList P ops Q (o :: rest) a w := by
  refine wpList_plain hgd fun K hK => ?_
  unfold Oper.wp execOp
  simp only [ho, resolve, invoke, builtin, Sem.run_bind, Sem.run_pure, Result.andThen_ok, List.map_toArray, List.map_cons, List.map_nil, hd, hs, hr]
  exact hK _ _ h
set_option maxHeartbeats 1000000 in
set_option maxRecDepth 100000 in
theorem ws_walk (P0 : Nat) (s : ByteArray) (w w1 w2 : World) (V' v' old : Value) (hsl : ∃ a n c, v' = .slice a n c)
    (hcc : Calls Tryz.prog 44 #[.pointer (some ⟨P0, 0, none⟩)] w (fun e w' => e = .returned (.tuple #[]) ∧ w' = w1))
    (c1 : w1.cell? ⟨P0, 1, none⟩ = some V') (a1 : (Builtin.append_ #[44, 9] 44 #[V', .string s]).run Tryz.prog w1 = .ok v' w2)
    (d1 : w2.cell? ⟨P0, 1, none⟩ = some old) (f1 : w2.frozen? ⟨P0, 1, none⟩ = false) :
    Calls Tryz.prog 17 #[.pointer (some ⟨P0, 0, none⟩), .string s] w fun e w' => e = .returned (.tuple #[.int .i64 s.size, .nilIface]) ∧ w' = w2.setCell ⟨P0, 1, none⟩ v' := by
  obtain ⟨va, vn, vc, rfl⟩ := hsl
  go_enter Tryz.func17, Tryz.ntmps17
  go_wp2_with fail
  refine hcc.mono ?_
  rintro e w' ⟨rfl, rfl⟩
  go_wp2_with (at_builtin; refine wpList_append_run rfl (.tmp 12) (.tmp 13) 44 9 rfl _ _ _ _ rfl rfl a1 ?_)
  clear a1 hcc c1
  go_wp2
  go_ret2
  exact ⟨rfl, rfl⟩
set_option maxHeartbeats 2000000 in
set_option maxRecDepth 100000 in
theorem ws_spec (K p : Nat) (M : Mem) (l : List UInt8) (s : ByteArray) (hB : BAt K M p l) (hlen : l.length + s.size ≤ 140737488355328) :
    Spec Tryz.prog 17 [.pointer (some ⟨p, 0, none⟩), .string s] M fun u M' => u = .tuple #[.int .i64 s.size, .nilIface] ∧ BAt K M' p (l ++ s.data.toList) ∧ Keeps K M M' ∧ M.size ≤ M'.size := by
  intro ι w ys hy hr
  obtain ⟨y0, y1, rfl, h0, h1⟩ := vrels_two hy
  cases h1
  obtain ⟨hKp, a, V, hg, ha, hV⟩ := hB
  obtain ⟨C, e, fz, hC, hsz, hst, hlen', hv, hfz⟩ := hr.at' p false 0 _ hg
  have hpl := Mem.get_lt hg
  obtain ⟨t1, t2, t3⟩ := hst.tag.1 rfl (by simp)
  have te : e = 46 := by
    have : tagT = some 46 := rfl
    rw [this] at t1; cases t1; rfl
  subst te
  obtain ⟨P0, hP0⟩ : ∃ P0, P0 = (ι p).blk := ⟨_, rfl⟩
  have hy0 : y0 = .pointer (some ⟨P0, 0, none⟩) := by
    cases h0
    rw [t2, hP0]
  subst hy0
  obtain ⟨o1, a', b1, b2⟩ := hv 0 a rfl
  obtain ⟨o2, V', b3, b4⟩ := hv 1 V rfl
  rw [t2, Nat.zero_add] at b1 b3
  have C2 : C.size = 2 := t3
  rw [← hP0] at hC
  have c0 : w.cell? ⟨P0, 0, none⟩ = some a' := by rw [cell_of_block hC]; exact b1
  have c1 : w.cell? ⟨P0, 1, none⟩ = some V' := by rw [cell_of_block hC]; exact b3
  -- behind copyCheck
  obtain ⟨w1, hcc, hM1⟩ : ∃ w1, Calls Tryz.prog 44 #[.pointer (some ⟨P0, 0, none⟩)] w (fun e w' => e = .returned (.tuple #[]) ∧ w' = w1) ∧
      ∃ M1, Rel ι M1 w1 ∧ Step ι M w ι M1 w1 ∧ M1.get p = some (.cells false 0 [.pointer (some ⟨p, 0, none⟩), V]) ∧ (∀ b x, b ≠ p → M.get b = some x → M1.get b = some x) ∧ M1.size = M.size ∧ w1.cell? ⟨P0, 1, none⟩ = some V' := by
    rcases ha with rfl | rfl
    · cases b2
      have hsh : w.shape? P0 = some (46, 2) := by simp [World.shape?, hC, C2]
      have hf0 : w.frozen? ⟨P0, 0, none⟩ = false := frozen_of_block hC (hfz rfl 0 (by omega))
      have hself : VRel M.Has ι (.pointer (some ⟨p, 0, none⟩)) (.pointer (some ⟨P0, 0, none⟩)) := h0
      obtain ⟨k1, k2⟩ := hr.write hg 0 [.pointer (some ⟨p, 0, none⟩)] [.pointer (some ⟨P0, 0, none⟩)] (by simp) (by simp [Value.oneCell']) (.cons hself .nil)
      rw [t2, ← hP0] at k1 k2
      refine ⟨_, copy_fresh P0 w c0 hsh hf0, _, k1, k2, Mem.get_set_same hg _, fun b x hb hx => by rw [Mem.get_set_ne (Ne.symm hb)]; exact hx, Mem.size_set .., ?_⟩
      have := heap_setCells [.pointer (some ⟨P0, 0, none⟩)] w P0 0 C _ fz hC
      rw [show w.setCells P0 0 [.pointer (some ⟨P0, 0, none⟩)] = w.setCell ⟨P0, 0, none⟩ (.pointer (some ⟨P0, 0, none⟩)) from rfl] at this
      rw [cell_of_block this]
      simp only [setA]
      rw [Array.getElem?_setIfInBounds_ne (by decide)]
      exact b3
    · cases b2
      rw [← hP0, t2] at c0
      exact ⟨w, copy_used P0 w c0, M, hr, Step.refl _ _ _, hg, fun b x _ hx => hx, rfl, c1⟩
  obtain ⟨M1, hr1, hs1, hg1, hk1, hz1, c1'⟩ := hM1
  have hV1 : BufAt K p M1 V l := by
    rcases hV with ⟨h1, h2⟩ | ⟨h1, g, rest, h2, h3, h4, h5, h6⟩
    · exact .inl ⟨h1, h2⟩
    · exact .inr ⟨h1, g, rest, h2, h3, h4, h5, hk1 g _ h3 h6⟩
  have hVV : VRel M1.Has ι V V' := b4.mono hs1.grows fun _ _ => rfl
  obtain ⟨v', w2, κ, M2, V2, a1, a2, a3, a4, a5, a6, a7, a8⟩ := bufApp_run (P := Tryz.prog) (t := 44) (tx := 9) (ty := 44) (i := Tryz.t5) hr1 Tryz.underlying44 Tryz.underlying9 rfl inf_byte rfl rfl rfl (K := K) (p := p) (by omega) (by omega) hV1 hVV s hlen
  have hg2 := a6 p _ (.inr rfl) hg1
  obtain ⟨D, e2, fz2, hD, hDs, hDt, hDl, hDv, hDf⟩ := a3.at' p false 0 _ hg2
  have eκ : κ p = ι p := a4.at_ p (Mem.get_has hg1)
  rw [eκ, ← hP0] at hD
  rw [eκ, t2, Nat.zero_add] at hDl
  have hD2 : 2 ≤ D.size := by simpa using hDl
  have f1 : w2.frozen? ⟨P0, 1, none⟩ = false := frozen_of_block hD (hDf rfl 1 (by omega))
  have d1 : w2.cell? ⟨P0, 1, none⟩ = some (D[1]'(by omega)) := by rw [cell_of_block hD]; exact Array.getElem?_eq_getElem _
  generalize D[1]'(by omega) = old at d1
  have hone : V2.oneCell' = true := by
    rcases a5 with ⟨_, rfl⟩ | ⟨_, g, rest, _, _, rfl, _⟩ <;> rfl
  obtain ⟨k1, k2⟩ := a3.write hg2 1 [V2] [v'] (by simp) (by simpa using hone) (.cons a2 .nil)
  rw [eκ, t2, ← hP0] at k1 k2
  have hvs : ∃ a n c, v' = .slice a n c := by
    rcases a5 with ⟨_, rfl⟩ | ⟨_, g, rest, _, _, rfl, _⟩
    · cases a2; exact ⟨_, _, _, rfl⟩
    · generalize (l ++ s.data.toList).length = k at a2
      generalize k + rest.length = c at a2
      cases a2 <;> exact ⟨_, _, _, rfl⟩
  refine Calls.mono (R := fun e w' => e = .returned (.tuple #[.int .i64 s.size, .nilIface]) ∧ w' = w2.setCell ⟨P0, 1, none⟩ v') ?_ ?_
  · exact ws_walk P0 s w w1 w2 V' v' old hvs hcc c1' a1 d1 f1
  · rintro e w' ⟨rfl, rfl⟩
    refine ⟨.tuple #[.int .i64 s.size, .nilIface], _, κ, _, ⟨rfl, ⟨hKp, _, V2, Mem.get_set_same hg2 _, .inr rfl, ?_⟩, ⟨fun b x hb hx => ?_, fun b st cs hx => ?_⟩, ?_⟩, rfl, flat_rel 3 _ rfl, k1, (hs1.trans a4).trans k2⟩
    · rcases a5 with ⟨h1, h2⟩ | ⟨h1, g, rest, h2, h3, h4, h5, h6⟩
      · exact .inl ⟨h1, h2⟩
      · exact .inr ⟨h1, g, rest, h2, h3, h4, h5, by rw [Mem.get_set_ne (Ne.symm h3)]; exact h6⟩
    · rw [Mem.get_set_ne (by omega)]
      exact a6 b x (.inl hb) (hk1 b x (by omega) hx)
    · have hbp : b ≠ p := by rintro rfl; rw [hg] at hx; cases hx
      rw [Mem.get_set_ne (Ne.symm hbp)]
      exact a7 b st cs (hk1 b _ hbp hx)
    · rw [Mem.size_set]; omega
set_option maxHeartbeats 2000000 in
set_option maxRecDepth 100000 in
theorem bstr_walk (P0 : Nat) (w : World) (V' : Value) (q : Option Addr) (n cap : Nat) (s : ByteArray) (w' : World) (hV : V' = .slice q n cap) (c1 : w.drew.cell? ⟨P0, 1, none⟩ = some (.slice q n cap)) (r : Option Addr)
    (hSD : (Builtin.unsafeSliceData_ #[44] 76 #[.slice q n cap]).run Tryz.prog w.drew = .ok (.pointer r) w.drew)
    (hUS : (Builtin.unsafeString_ #[76, 3] 9 #[.pointer r, .int .i64 n]).run Tryz.prog w.drew = .ok (.string s) w') :
    Calls Tryz.prog 19 #[.pointer (some ⟨P0, 0, none⟩)] w fun e w2 => e = .returned (.string s) ∧ w2 = w' := by
  go_enter Tryz.func19, Tryz.ntmps19
  go_wp2
  go_region
  all_goals (go_wp2; go_ret; exact ⟨rfl, rfl⟩)
theorem freeze_heap_ne (w : World) (a : Addr) (n k : Nat) (h : k ≠ a.block) : (w.freeze a n).heap[k]? = w.heap[k]? := by
  unfold World.freeze
  split
  · rfl
  · simp only [Array.getElem?_modify]
    rw [if_neg (Ne.symm h)]
theorem freeze_rest (w : World) (a : Addr) (n : Nat) : (w.freeze a n).heap.size = w.heap.size ∧ (w.freeze a n).os = w.os ∧ (w.freeze a n).tape = w.tape ∧ (w.freeze a n).output = w.output := by
  unfold World.freeze
  split
  · exact ⟨rfl, rfl, rfl, rfl⟩
  · exact ⟨by simp, rfl, rfl, rfl⟩
end Go.Proofs.YtabffcplbjaklaaGreatDoor.Abs
namespace Go.Proofs.YtabffcplbjaklaaGreatDoor.Abs
open Go Go.RowKit
def BRaw (K p : Nat) (M : Mem) (l : List UInt8) : Prop :=
  K ≤ p ∧ ∃ a V, M.get p = some (.cells false 0 [a, V]) ∧ ((l = [] ∧ V = .slice none 0 0) ∨ (l ≠ [] ∧ ∃ g c C hi, K ≤ g ∧ g ≠ p ∧ V = .slice (some ⟨g, 0, none⟩) l.length c ∧ l.length ≤ c ∧ l.length ≤ maxLen ∧ l.length ≤ hi ∧
    (∀ (j : Nat) (x : UInt8), l[j]? = some x → C[j]? = some (Value.int .u8 x.toNat)) ∧ M.get g = some (.raw false C 5 0 hi)))
theorem freeze_row (w : World) (b n : Nat) (hn : n ≠ 0) (C : Array Value) (e : TypeId) (fz : Nat × Nat) (h : w.heap[b]? = some (.cells C e fz)) :
    ∃ hi, n ≤ hi ∧ (w.freeze ⟨b, 0, none⟩ n).heap[b]? = some (.cells C e (0, hi)) := by
  unfold World.freeze
  rw [if_neg hn]
  simp only [Array.getElem?_modify, if_true, h, Option.map_some]
  obtain ⟨lo, hi⟩ := fz
  by_cases e1 : (lo == hi) = true
  · exact ⟨n, Nat.le_refl _, by simp [e1]⟩
  · exact ⟨max hi n, by omega, by simp [e1]⟩
theorem freeze_again (w : World) (b n : Nat) (C : Array Value) (e : TypeId) (hi : Nat) (hn : n ≠ 0) (hh : n ≤ hi) (h : w.heap[b]? = some (.cells C e (0, hi))) :
    (w.freeze ⟨b, 0, none⟩ n).heap = w.heap := by
  unfold World.freeze
  rw [if_neg hn]
  apply Array.ext_getElem?
  intro k
  simp only [Array.getElem?_modify]
  by_cases e1 : b = k
  · subst e1
    rw [if_pos rfl, h, Option.map_some]
    have e2 : ¬ (0 == hi) = true := by simp; omega
    simp [e2]
    omega
  · rw [if_neg e1]
set_option maxHeartbeats 2000000 in
set_option maxRecDepth 100000 in
theorem bstr1_spec (K p : Nat) (M : Mem) (l : List UInt8) (hB : BAt K M p l) :
    Spec Tryz.prog 19 [.pointer (some ⟨p, 0, none⟩)] M fun u M' => u = .string (str l) ∧ Keeps K M M' ∧ BRaw K p M' l := by
  intro ι w ys hy hr
  obtain ⟨y0, rfl, h0⟩ := vrels_one hy
  obtain ⟨hKp, a, V, hg, ha, hV⟩ := hB
  obtain ⟨C, e, fz, hC, hsz, hst, hlen', hv, hfz⟩ := hr.at' p false 0 _ hg
  obtain ⟨t1, t2, t3⟩ := hst.tag.1 rfl (by simp)
  obtain ⟨P0, hP0⟩ : ∃ P0, P0 = (ι p).blk := ⟨_, rfl⟩
  have hy0 : y0 = .pointer (some ⟨P0, 0, none⟩) := by
    cases h0
    rw [t2, hP0]
  subst hy0
  obtain ⟨o2, V', b3, b4⟩ := hv 1 V rfl
  rw [t2, Nat.zero_add] at b3
  rw [← hP0] at hC
  have c1 : w.drew.cell? ⟨P0, 1, none⟩ = some V' := by
    have : w.drew.heap[P0]? = some (.cells C e fz) := hC
    rw [cell_of_block this]; exact b3
  rcases hV with ⟨rfl, rfl⟩ | ⟨hl0, g, rest, h2, h3, rfl, h5, h6⟩
  · cases b4
    refine (bstr_walk P0 w _ none 0 0 ⟨#[]⟩ w.drew rfl c1 none rfl (Lib.run_unsafeString_none _ _ _ _ none)).mono ?_
    rintro e w' ⟨rfl, rfl⟩
    have hb : Below w.heap.size w w.drew := (Below.refl _ w).trans ⟨rfl, rfl, rfl, Nat.le_refl _, fun _ _ => rfl⟩
    refine ⟨_, _, ι, M, ⟨rfl, Keeps.refl _ _, hKp, a, _, hg, .inl ⟨rfl, rfl⟩⟩, rfl, .string _, hr.same fun _ _ => rfl, ⟨rfl, rfl, rfl, Nat.le_refl _, fun b h => h, fun _ _ => rfl, fun _ _ _ => rfl, fun b hb => .inr ⟨b, hb, rfl⟩⟩⟩
  · obtain ⟨D, e2, fz2, hD, hDs, hDt, hDl, hDv, hDf⟩ := hr.at' g false bufS _ h6
    have hbl : (bytesV l).length = l.length := by simp [bytesV]
    have hl1 : 0 < l.length := List.length_pos_iff.2 hl0
    have hcl : (bytesV l ++ rest).length = l.length + rest.length := by rw [List.length_append, hbl]
    obtain ⟨s1, s2, s3⟩ := hDt.tag.2 rfl (by omega) (by rw [hcl]; unfold maxLen at h5; unfold bufS; omega)
    have te : e2 = 5 := by
      have : bufT = some 5 := rfl
      rw [this] at s1; cases s1; rfl
    subst te
    rw [hcl] at hDl
    have hbytes : ∀ (j : Nat) (x : UInt8), l[j]? = some x → D[j]? = some (Value.int .u8 x.toNat) := fun j x hx => by
      obtain ⟨_, u', h8, h9⟩ := hDv j (.int .u8 x.toNat) (by
        have : (bytesV l)[j]? = some (.int .u8 x.toNat) := by simp [bytesV, hx, byteV]
        rw [List.getElem?_append_left (List.getElem?_eq_some_iff.1 this).1]; exact this)
      cases h9
      rw [s2, Nat.zero_add] at h8
      exact h8
    have hlc : l.length ≤ l.length + rest.length := Nat.le_add_right _ _
    generalize hkk : l.length = k at b4
    generalize hcc0 : k + rest.length = c at b4
    cases b4 with
    | empty _ _ o' hlt => omega
    | slice _ _ _ _ cap' hlt hl hc =>
      subst hkk
      have hcc : cap' ≠ 0 := by rcases hc with hc | hc <;> omega
      rw [s2, Nat.add_zero] at c1
      refine (bstr_walk P0 w _ _ _ _ ⟨l.toArray⟩ _ rfl c1 _ (Lib.run_unsafeSliceData_row _ _ _ _ _ _ hcc) (Lib.run_unsafeString_row w.drew 76 3 9 5 Tryz.underlying76 (by kernel_rfl) (ι g).blk D.size
        (by have hD' : w.drew.heap[(ι g).blk]? = some (.cells D 5 fz2) := hD
            simp [World.shape?, hD']) l hl0 (by omega) (by unfold maxLen at h5; omega) ?_)).mono ?_
      · intro j x hx
        have hD' : w.drew.heap[(ι g).blk]? = some (.cells D 5 fz2) := hD
        rw [Addr_add, cell_of_block hD', Nat.zero_add]
        exact hbytes j x hx
      · rintro e w' ⟨rfl, rfl⟩
        obtain ⟨hi, hn, hfrz⟩ := freeze_row w.drew (ι g).blk l.length (by omega) D 5 fz2 hD
        obtain ⟨z1, z2, z3, z4⟩ := freeze_rest w.drew ⟨(ι g).blk, 0, none⟩ l.length
        obtain ⟨k1, k2⟩ := hr.turnOther (w' := w.drew.freeze ⟨(ι g).blk, 0, none⟩ l.length) (x := .raw false D 5 0 hi) h6 rfl s2 (fun _ _ _ e => by cases e) ⟨rfl, rfl⟩ hfrz (fun k hk => freeze_heap_ne _ _ _ _ hk) z1 z2 z3 z4
        refine ⟨_, _, ι, M.set g (some (.raw false D 5 0 hi)), ⟨rfl, Keeps.set h2 h6 _, hKp, a, .slice (some ⟨g, 0, none⟩) l.length (l.length + rest.length), ?_, .inr ⟨hl0, g, l.length + rest.length, D, hi, h2, h3, rfl, by omega, by omega, hn, hbytes, Mem.get_set_same h6 _⟩⟩, rfl, .string _, k1, k2⟩
        rw [Mem.get_set_ne h3]; exact hg
set_option maxHeartbeats 2000000 in
set_option maxRecDepth 100000 in
theorem bstr2_spec (K p : Nat) (M : Mem) (l : List UInt8) (hB : BRaw K p M l) :
    Spec Tryz.prog 19 [.pointer (some ⟨p, 0, none⟩)] M fun u M' => u = .string (str l) ∧ M' = M := by
  intro ι w ys hy hr
  obtain ⟨y0, rfl, h0⟩ := vrels_one hy
  obtain ⟨hKp, a, V, hg, hV⟩ := hB
  obtain ⟨C, e, fz, hC, hsz, hst, hlen', hv, hfz⟩ := hr.at' p false 0 _ hg
  obtain ⟨t1, t2, t3⟩ := hst.tag.1 rfl (by simp)
  obtain ⟨P0, hP0⟩ : ∃ P0, P0 = (ι p).blk := ⟨_, rfl⟩
  have hy0 : y0 = .pointer (some ⟨P0, 0, none⟩) := by
    cases h0
    rw [t2, hP0]
  subst hy0
  obtain ⟨o2, V', b3, b4⟩ := hv 1 V rfl
  rw [t2, Nat.zero_add] at b3
  rw [← hP0] at hC
  have c1 : w.drew.cell? ⟨P0, 1, none⟩ = some V' := by
    have : w.drew.heap[P0]? = some (.cells C e fz) := hC
    rw [cell_of_block this]; exact b3
  rcases hV with ⟨rfl, rfl⟩ | ⟨hl0, g, c, D, hi, h2, h3, rfl, h4, h5, h7, hbytes, h6⟩
  · cases b4
    refine (bstr_walk P0 w _ none 0 0 ⟨#[]⟩ w.drew rfl c1 none rfl (Lib.run_unsafeString_none _ _ _ _ none)).mono ?_
    rintro e w' ⟨rfl, rfl⟩
    refine ⟨_, _, ι, M, ⟨rfl, rfl⟩, rfl, .string _, hr.same fun _ _ => rfl, ⟨rfl, rfl, rfl, Nat.le_refl _, fun b h => h, fun _ _ => rfl, fun _ _ _ => rfl, fun b hb => .inr ⟨b, hb, rfl⟩⟩⟩
  · obtain ⟨hD, s2⟩ := hr.oth g _ h6
    have hl1 : 0 < l.length := List.length_pos_iff.2 hl0
    have hDl : l.length ≤ D.size := by
      obtain ⟨x, hx⟩ : ∃ x, l[l.length - 1]? = some x := ⟨_, List.getElem?_eq_getElem (by omega)⟩
      have := (Array.getElem?_eq_some_iff.1 (hbytes _ _ hx)).1
      omega
    generalize hkk : l.length = k at b4
    cases b4 with
    | empty _ _ o' hlt => omega
    | slice _ _ _ _ cap' hlt hl hc =>
      subst hkk
      have hcc : cap' ≠ 0 := by rcases hc with hc | hc <;> omega
      rw [s2, Nat.add_zero] at c1
      refine (bstr_walk P0 w _ _ _ _ ⟨l.toArray⟩ _ rfl c1 _ (Lib.run_unsafeSliceData_row _ _ _ _ _ _ hcc) (Lib.run_unsafeString_row w.drew 76 3 9 5 Tryz.underlying76 (by kernel_rfl) (ι g).blk D.size
        (by have hD' : w.drew.heap[(ι g).blk]? = some (.cells D 5 (0, hi)) := hD
            simp [World.shape?, hD']) l hl0 (by omega) (by unfold maxLen at h5; omega) ?_)).mono ?_
      · intro j x hx
        have hD' : w.drew.heap[(ι g).blk]? = some (.cells D 5 (0, hi)) := hD
        rw [Addr_add, cell_of_block hD', Nat.zero_add]
        exact hbytes j x hx
      · rintro e w' ⟨rfl, rfl⟩
        obtain ⟨z1, z2, z3, z4⟩ := freeze_rest w.drew ⟨(ι g).blk, 0, none⟩ l.length
        have hsame := freeze_again w.drew (ι g).blk l.length D 5 hi (by omega) h7 hD
        have hh : ∀ k : Nat, (w.drew.freeze ⟨(ι g).blk, 0, none⟩ l.length).heap[k]? = w.heap[k]? := fun k => by rw [hsame]; rfl
        refine ⟨_, _, ι, M, ⟨rfl, rfl⟩, rfl, .string _, hr.same fun _ _ => hh _, ⟨z2, z3, z4, by rw [z1]; exact Nat.le_refl _, fun b h => h, fun _ _ => rfl, fun _ _ _ => hh _, fun b hb => .inr ⟨b, hb, rfl⟩⟩⟩
end Go.Proofs.YtabffcplbjaklaaGreatDoor.Abs
namespace Go.Proofs.YtabffcplbjaklaaGreatDoor
open Go.RowKit Abs
theorem mtag_spec (key : ByteArray) (v : Value) (xs : List ByteArray) (m : Mem) (hd : Rd m 1 v xs.length (xs.map .string)) (hk : key.size ≤ 140737488355200) (hlen : xs.length ≤ maxLen) (hsz : (joined xs).length ≤ 140737488355000) :
    Abs.Spec Tryz.prog 21 [.string key, v] m fun u M => u = .string (str (Sha.tag key.data.toList (joined xs))) ∧ M = m :=
  Spec.of_below rfl fun ι w ys hy hr => by
    obtain ⟨a', b', rfl, ha, hb⟩ := vrels_two hy
    cases ha
    exact tag_any key b' xs w (Rd.strs hr hd hb) hk hlen hsz
end Go.Proofs.YtabffcplbjaklaaGreatDoor
namespace Go.Proofs.YtabffcplbjaklaaGreatDoor
open Go.RowKit Abs Stab
theorem new_one (s : ByteArray) : nBuildSlice Tryz.prog 59 1 [(0, .string s)] = some (.cells false 1 [.string s]) := by kernel_rfl
theorem al_Bld : nAlloc Tryz.prog 46 = some (.cells false 0 [.pointer none, .slice none 0 0]) := by kernel_rfl
theorem hexV_le (l : List UInt8) : (hexV l).length ≤ 2 * l.length + 1 := hexV_len' l
theorem tag_len32 (k m : List UInt8) : (Sha.tag k m).length = 32 := by rw [Sha.tag, Sha.sum_length]
theorem bat_keep {K p : Nat} {M M' : Mem} {t : List UInt8} (h : BAt K M p t) (hk : ∀ b x, M.get b = some x → M'.get b = some x) : BAt K M' p t := by
  obtain ⟨h1, a, V, h2, h3, h4⟩ := h
  refine ⟨h1, a, V, hk _ _ h2, h3, ?_⟩
  rcases h4 with h4 | ⟨h5, g, rest, h6, h7, h8, h9, h10⟩
  · exact .inl h4
  · exact .inr ⟨h5, g, rest, h6, h7, h8, h9, hk _ _ h10⟩
theorem joined_one (s : List UInt8) : joined [str s] = s := by simp [joined, str]
set_option maxRecDepth 100000 in
set_option maxHeartbeats 4000000 in
theorem put_spec (key : ByteArray) (hkey : key.size ≤ 1000000) (K : Nat) (M : Mem) (V : Value) (L : List Header) (h : HdrsOwn K M V L) (hl : L.length ≤ 1000) (hs : Small L) :
    Abs.Spec Tryz.prog 8 [.string key, V] M fun u M' => (∀ b x, b < M.size → M.get b = some x → M'.get b = some x) ∧ M.size ≤ M'.size ∧ PutIs key L u := by
  obtain ⟨a0, c0, hV⟩ := h.len
  subst hV
  refine Abs.Spec.walkM Tryz.func8 (by rfl) _ Tryz.results8 _ Tryz.ntmps8 (by simp) ?_
  intro hc hx k
  have hB := al_Bld
  refine CW_seq (CW_region ?_)
  simp only [zZ, reduceIte, Nat.reduceLT, Int.reduceToNat, Int.reduceLE, Int.reduceEq, Int.reduceLT, Nat.reduceEqDiff, Nat.reduceAdd, zMn]
  refine CW_seq (CW_region ?_)
  simp only [zZ, reduceIte, Nat.reduceLT, Int.reduceToNat, Int.reduceLE, Int.reduceEq, Int.reduceLT, Nat.reduceEqDiff, Nat.reduceAdd, zMn]
  refine ⟨by kernel_rfl, _, sorted_spec K M _ L h hl hs, ?_⟩
  rintro u1 M1 ⟨ho1, hs1, hso⟩
  unfold SortedIs at hso
  by_cases h256 : 256 < L.length
  · rw [if_pos h256] at hso
    subst hso
    simp only [zZ, reduceIte, Nat.reduceLT, Int.reduceToNat, Int.reduceLE, Int.reduceEq, Int.reduceLT, Nat.reduceEqDiff, Nat.reduceAdd, zMn]
    refine CW_seq (CW_seq (CW_region ?_))
    simp only [zZ, reduceIte, Nat.reduceLT, Int.reduceToNat, Int.reduceLE, Int.reduceEq, Int.reduceLT, Nat.reduceEqDiff, Nat.reduceAdd, zMn]
    refine CW_cond true (by rfl) (fun _ => CW_seq (CW_region ?_)) (fun h => by cases h)
    simp only [zZ, reduceIte, Nat.reduceLT, Int.reduceToNat, Int.reduceLE, Int.reduceEq, Int.reduceLT, Nat.reduceEqDiff, Nat.reduceAdd, zMn]
    refine CW_ret ?_
    simp only [zZ, reduceIte, Nat.reduceLT, Int.reduceToNat, Int.reduceLE, Int.reduceEq, Int.reduceLT, Nat.reduceEqDiff, Nat.reduceAdd, zMn, mEnd, sAnswer, sAnswer.sRes]
    exact ⟨M1, Thin.refl _, ho1, hs1, .inl ⟨h256, rfl⟩⟩
  rw [if_neg h256] at hso
  obtain ⟨R, hst, hso⟩ := hso
  by_cases he : sortErr none R = 0
  · rw [if_pos he] at hso
    obtain ⟨V1, rfl, hown⟩ := hso
    obtain ⟨a1, c1, hV1⟩ := hown.len
    subst hV1
    have hRl := hst.len
    have hmay : ∀ x ∈ R, mayH x = true := sortErr_may he
    simp only [zZ, reduceIte, Nat.reduceLT, Int.reduceToNat, Int.reduceLE, Int.reduceEq, Int.reduceLT, Nat.reduceEqDiff, Nat.reduceAdd, zMn]
    refine CW_seq (CW_seq (CW_region ?_))
    simp only [zZ, reduceIte, Nat.reduceLT, Int.reduceToNat, Int.reduceLE, Int.reduceEq, Int.reduceLT, Nat.reduceEqDiff, Nat.reduceAdd, zMn]
    refine CW_cond false (by rfl) (fun h => by cases h) (fun _ => CW_skip ?_)
    simp only [zZ, reduceIte, Nat.reduceLT, Int.reduceToNat, Int.reduceLE, Int.reduceEq, Int.reduceLT, Nat.reduceEqDiff, Nat.reduceAdd]
    refine CW_seq (CW_region ?_)
    simp only [zZ, reduceIte, Nat.reduceLT, Int.reduceToNat, Int.reduceLE, Int.reduceEq, Int.reduceLT, Nat.reduceEqDiff, Nat.reduceAdd, zMn, hB]
    obtain ⟨M0, hM0⟩ : ∃ M0, M0 = M1.push (.cells false 0 [.pointer none, .slice none 0 0]) := ⟨_, rfl⟩
    obtain ⟨p, hp⟩ : ∃ p, p = M1.size := ⟨_, rfl⟩
    rw [← hM0, ← hp]
    have hM0s : M0.size = p + 1 := by rw [hM0, Mem.size_push, hp]
    have hold0 : ∀ b y, M1.get b = some y → M0.get b = some y := fun b y hb => by rw [hM0, Mem.get_push_old (get_live hb)]; exact hb
    have hB0 : BAt p M0 p [] := ⟨Nat.le_refl _, _, _, by rw [hM0, hp]; exact Mem.get_push_new _ _, .inl rfl, .inl ⟨rfl, rfl⟩⟩
    have zfirst : (⟨#[115, 108, 101, 100, 103, 101, 32, 109, 97, 110, 105, 102, 101, 115, 116, 32, 49, 10]⟩ : ByteArray) = str (firstW ++ [10]) := rfl
    have zc10 : (⟨#[10]⟩ : ByteArray) = str [10] := rfl
    have ztag : (⟨#[116, 97, 103, 32]⟩ : ByteArray) = str tagW := rfl
    have htw : tagW.length = 4 := rfl
    refine CW_seq (CW_region ?_)
    simp only [zZ, reduceIte, Nat.reduceLT, Int.reduceToNat, Int.reduceLE, Int.reduceEq, Int.reduceLT, Nat.reduceEqDiff, Nat.reduceAdd, zMn, zfirst]
    refine ⟨by kernel_rfl, _, ws_spec p p _ [] (str (firstW ++ [10])) hB0 (by show ([] : List UInt8).length + (firstW ++ [10]).length ≤ _; decide), ?_⟩
    rintro _ M2 ⟨rfl, hb2, hk2, hs2⟩
    simp only [zZ, reduceIte, Nat.reduceLT, Int.reduceToNat, Int.reduceLE, Int.reduceEq, Int.reduceLT, Nat.reduceEqDiff, Nat.reduceAdd, zMn]
    have hold2 : ∀ b y, M1.get b = some y → M2.get b = some y := fun b y hb => hk2.1 b y (by rw [hp]; exact get_live hb) (hold0 b y hb)
    have hal : nAlloc Tryz.prog 40 = some (.cells false (aStride Tryz.prog 40) [.int .i64 0, .string ⟨#[]⟩, .int .i64 0, .int .i64 0, .int .i64 0, .string ⟨#[]⟩, .string ⟨#[]⟩]) := al_Hdr
    generalize aStride Tryz.prog 40 = s2 at hal
    have at2 : ∀ M', (∀ b x, M1.get b = some x → M'.get b = some x) → ∀ (i : Nat) (x : Header), R[i]? = some x → ∃ g, a1 = some ⟨g, 0, none⟩ ∧ HdrsIn M' g R := by
      intro M' hM i x hx
      rcases hown with ⟨h1, _⟩ | ⟨h1, g, _, h3, h4⟩
      · rw [h1] at hx; cases hx
      · cases h3; exact ⟨g, rfl, hM _ _ h4⟩
    have hbody : ∀ i, (firstW ++ [10] ++ (R.take i).flatMap lineN).length ≤ 18 + 10001 * 256 := fun i => by
      have := bodyOf_len (S := R.take i) fun x hx => hmay x (List.mem_of_mem_take hx)
      have h2 : (R.take i).length ≤ 256 := by rw [List.length_take]; omega
      unfold bodyOf at this
      omega
    have hb2' : BAt p M2 p (firstW ++ [10]) := hb2
    clear hb2
    refine MW_mid (fun f M' => f = [(0, .string key), (7, .pointer (some ⟨p, 0, none⟩))] ∧ BAt p M' p (bodyOf R) ∧ Keeps p M2 M' ∧ M2.size ≤ M'.size) ?_ ?_
    · refine CW_seq (CW_region ?_)
      simp only [zZ, reduceIte, Nat.reduceLT, Int.reduceToNat, Int.reduceLE, Int.reduceEq, Int.reduceLT, Nat.reduceEqDiff, Nat.reduceAdd, zMn]
      refine CW_block (MW_loop (fun j f M' => ∃ i : Nat, j = R.length - i ∧ f = [(0, .string key), (7, .pointer (some ⟨p, 0, none⟩)), (19, .slice a1 R.length c1), (20, .int .i64 (R.length : Nat)), (21, .int .i64 (i : Nat))] ∧ i ≤ R.length ∧
        BAt p M' p (firstW ++ [10] ++ (R.take i).flatMap lineN) ∧ Keeps p M2 M' ∧ M2.size ≤ M'.size) R.length ?_ ?_)
      · refine ⟨[0, 7, 19, 20, 21], ?_⟩
        simp only [zZ, reduceIte, Nat.reduceLT, Int.reduceToNat, Int.reduceLE, Int.reduceEq, Int.reduceLT, Nat.reduceEqDiff, Nat.reduceAdd, keepF]
        exact ⟨M2, Thin.refl _, 0, rfl, rfl, by omega, by simpa using hb2', Keeps.refl _ _, Nat.le_refl _⟩
      · rintro j f M' ⟨i, rfl, rfl, hi, hbi, hki, hsi⟩
        refine CW_seq (CW_region ?_)
        simp only [zZ, reduceIte, Nat.reduceLT, Int.reduceToNat, Int.reduceLE, Int.reduceEq, Int.reduceLT, Nat.reduceEqDiff, Nat.reduceAdd, zMn]
        refine CW_seq (CW_cond (decide ((i : Int) < (R.length : Int))) (by rfl) (fun h => CW_skip ?_) (fun h => CW_exit ?_))
        · have h := of_decide_eq_true h
          obtain ⟨x, hX⟩ : ∃ x, R[i]? = some x := ⟨_, List.getElem?_eq_getElem (by omega)⟩
          obtain ⟨g, rfl, hg⟩ := at2 M' (fun b y hb => hki.1 b y (by rw [hp]; exact get_live hb) (hold2 b y hb)) i x hX
          have r1 := hdr_row hg hX
          have z0 : (0 : Int) ≤ (i : Int) := by omega
          have mb := may_of (hmay x (List.mem_of_getElem? hX))
          have hput : putIn 7 (M'.push (.cells false s2 [.int .i64 0, .string ⟨#[]⟩, .int .i64 0, .int .i64 0, .int .i64 0, .string ⟨#[]⟩, .string ⟨#[]⟩])) M'.size 0 x.cells (some (.cells false s2 [.int .i64 0, .string ⟨#[]⟩, .int .i64 0, .int .i64 0, .int .i64 0, .string ⟨#[]⟩, .string ⟨#[]⟩])) = some (M'.push (.cells false s2 x.cells)) := by
            simp only [putIn]
            rw [if_pos ⟨rfl, Nat.le_refl 7, rfl⟩]
            congr 1
            exact push_set _ _ _
          simp only [zZ, reduceIte, Nat.reduceLT, Int.reduceToNat, Int.reduceLE, Int.reduceEq, Int.reduceLT, Nat.reduceEqDiff, Nat.reduceAdd]
          refine CW_seq (CW_block (CW_seq (CW_region ?_)))
          simp only [zZ, reduceIte, Nat.reduceLT, Int.reduceToNat, Int.reduceLE, Int.reduceEq, Int.reduceLT, Nat.reduceEqDiff, Nat.reduceAdd, zMn, z0, h, and_self, r1, hal, Mem.get_push_new, agg_cells, hput]
          obtain ⟨M4, hM4⟩ : ∃ M4, M4 = M'.push (.cells false s2 x.cells) := ⟨_, rfl⟩
          obtain ⟨bs, hbs⟩ : ∃ bs, bs = M'.size := ⟨_, rfl⟩
          have hg4 : M4.get bs = some (.cells false s2 x.cells) := by rw [hM4, hbs, Mem.get_push_new]
          have hold4 : ∀ b y, M'.get b = some y → M4.get b = some y := fun b y hy => by rw [hM4, Mem.get_push_old (get_live hy)]; exact hy
          have hs4 : M4.size = M'.size + 1 := by rw [hM4, Mem.size_push]
          have rx : rowIn 7 0 (some (.cells false s2 x.cells)) = some (.agg x.cells.toArray) := rfl
          rw [← hM4, ← hbs]
          refine CW_region ?_
          simp only [zZ, reduceIte, Nat.reduceLT, Int.reduceToNat, Int.reduceLE, Int.reduceEq, Int.reduceLT, Nat.reduceEqDiff, Nat.reduceAdd, zMn, hg4, rx]
          refine ⟨by kernel_rfl, _, line_spec x mb.idI mb.n mb.bytes mb.raw (by have := mb.salt; omega) (by have := mb.root; omega) (by have := mb.tag; omega) M4, ?_⟩
          rintro _ M9 ⟨rfl, e9⟩; replace e9 := e9.symm; subst e9
          have hxl : (lineV x ++ [10]).length ≤ 10001 := lineN_len (hmay x (List.mem_of_getElem? hX))
          have hxl2 : (lineV x).length ≤ 10001 := by rw [List.length_append] at hxl; omega
          simp only [zZ, reduceIte, Nat.reduceLT, Int.reduceToNat, Int.reduceLE, Int.reduceEq, Int.reduceLT, Nat.reduceEqDiff, Nat.reduceAdd, zMn, zc10, cat_str, siz_str]
          refine ⟨by first | omega | (simp only [List.length_append, List.length_cons, List.length_nil] <;> omega), ?_⟩
          have hl9 := hbody i
          refine ⟨by kernel_rfl, _, ws_spec p p _ _ (str (lineV x ++ [10])) (bat_keep hbi hold4) (by show _ + (lineV x ++ [10]).length ≤ _; omega), ?_⟩
          rintro _ M5 ⟨rfl, hb5, hk5, hs5⟩
          simp only [zZ, reduceIte, Nat.reduceLT, Int.reduceToNat, Int.reduceLE, Int.reduceEq, Int.reduceLT, Nat.reduceEqDiff, Nat.reduceAdd, zMn]
          refine CW_region ?_
          have w9 : IntKind.i64.wrap ((i : Int) + 1) = ((i + 1 : Nat) : Int) := by rw [wri (by omega) (by omega)]; omega
          simp only [zZ, reduceIte, Nat.reduceLT, Int.reduceToNat, Int.reduceLE, Int.reduceEq, Int.reduceLT, Nat.reduceEqDiff, Nat.reduceAdd, zMn, w9]
          refine ⟨[0, 7, 19, 20, 21], ?_⟩
          simp only [zZ, reduceIte, Nat.reduceLT, Int.reduceToNat, Int.reduceLE, Int.reduceEq, Int.reduceLT, Nat.reduceEqDiff, Nat.reduceAdd, keepF]
          have e5 : firstW ++ [10] ++ (R.take (i + 1)).flatMap lineN = firstW ++ [10] ++ (R.take i).flatMap lineN ++ (lineV x ++ [10]) := by
            rw [List.take_add_one, hX, List.flatMap_append, List.append_assoc]
            simp [lineN]
          exact ⟨M5, Thin.refl _, R.length - (i + 1), ⟨i + 1, rfl, rfl, by omega, by rw [e5]; exact hb5, hki.trans (Keeps.trans ⟨fun b y _ hy => hold4 b y hy, fun b s cs hy => hold4 b _ hy⟩ hk5), by omega⟩, by omega⟩
        · have h := of_decide_eq_false h
          refine ⟨[0, 7], ?_⟩
          simp only [zZ, reduceIte, Nat.reduceLT, Int.reduceToNat, Int.reduceLE, Int.reduceEq, Int.reduceLT, Nat.reduceEqDiff, Nat.reduceAdd, keepF]
          refine ⟨M', Thin.refl _, ?_, hki, hsi⟩
          rw [List.take_of_length_le (by omega)] at hbi
          exact hbi
    · rintro _ M3 ⟨rfl, hb3, hk3, hs3⟩
      obtain ⟨T, hT⟩ : ∃ T, T = Sha.tag key.data.toList (bodyOf R) := ⟨_, rfl⟩
      have hTl : T.length = 32 := by rw [hT]; exact tag_len32 _ _
      have hHl := hexV_le T
      have hbl : (bodyOf R).length ≤ 18 + 10001 * 256 := by have := bodyOf_len hmay; omega
      refine CW_seq (CW_region ?_)
      simp only [zZ, reduceIte, Nat.reduceLT, Int.reduceToNat, Int.reduceLE, Int.reduceEq, Int.reduceLT, Nat.reduceEqDiff, Nat.reduceAdd, zMn]
      refine ⟨by kernel_rfl, _, bstr1_spec p p M3 (bodyOf R) hb3, ?_⟩
      rintro _ M4 ⟨rfl, hk4, hb4⟩
      simp only [zZ, reduceIte, Nat.reduceLT, Int.reduceToNat, Int.reduceLE, Int.reduceEq, Int.reduceLT, Nat.reduceEqDiff, Nat.reduceAdd, zMn, ztag, cat_str, siz_str]
      refine ⟨by first | omega | (simp only [List.length_append, List.length_cons, List.length_nil] <;> omega), ?_⟩
      refine ⟨by kernel_rfl, _, bstr2_spec p p M4 (bodyOf R) hb4, ?_⟩
      rintro _ M9 ⟨rfl, e9⟩; replace e9 := e9.symm; subst e9
      simp only [zZ, reduceIte, Nat.reduceLT, Int.reduceToNat, Int.reduceLE, Int.reduceEq, Int.reduceLT, Nat.reduceEqDiff, Nat.reduceAdd, zMn, new_one]
      obtain ⟨M5, hM5⟩ : ∃ M5, M5 = M4.push (.cells false 1 [.string (str (bodyOf R))]) := ⟨_, rfl⟩
      rw [← hM5]
      have hg5 : M5.get M4.size = some (.cells false 1 [.string (str (bodyOf R))]) := by rw [hM5, Mem.get_push_new]
      have hj : joined [str (bodyOf R)] = bodyOf R := joined_one _
      refine ⟨by kernel_rfl, _, mtag_spec key (.slice (some ⟨M4.size, 0, none⟩) 1 1) [str (bodyOf R)] M5 ⟨_, _, rfl, rfl, Nat.le_refl _, (show 1 ≤ maxLen by decide), (fun h => by cases h), fun p hp => ⟨_, (Option.some.inj hp).symm, fun _ => ⟨false, hg5⟩⟩⟩ (by omega) (show 1 ≤ maxLen by decide) (by rw [hj]; omega), ?_⟩
      rintro _ M9 ⟨rfl, e9⟩; replace e9 := e9.symm; subst e9
      rw [hj, ← hT]
      simp only [zZ, reduceIte, Nat.reduceLT, Int.reduceToNat, Int.reduceLE, Int.reduceEq, Int.reduceLT, Nat.reduceEqDiff, Nat.reduceAdd, zMn]
      refine ⟨by kernel_rfl, _, hex_spec (str T) (by rw [str_size]; omega) _, ?_⟩
      rintro _ M9 ⟨rfl, e9⟩; replace e9 := e9.symm; subst e9
      have hTT : hexV (str T).data.toList = hexV T := rfl
      rw [hTT]
      simp only [zZ, reduceIte, Nat.reduceLT, Int.reduceToNat, Int.reduceLE, Int.reduceEq, Int.reduceLT, Nat.reduceEqDiff, Nat.reduceAdd, zMn, zc10, cat_str, siz_str]
      refine ⟨by first | omega | (simp only [List.length_append, List.length_cons, List.length_nil] <;> omega), by first | omega | (simp only [List.length_append, List.length_cons, List.length_nil] <;> omega), ?_⟩
      refine CW_ret ?_
      simp only [zZ, reduceIte, Nat.reduceLT, Int.reduceToNat, Int.reduceLE, Int.reduceEq, Int.reduceLT, Nat.reduceEqDiff, Nat.reduceAdd, zMn, mEnd, sAnswer, sAnswer.sRes]
      refine ⟨M5, Thin.refl _, fun b x hb hx => ?_, ?_, .inr ⟨h256, R, hst, .inl ⟨he, ?_⟩⟩⟩
      · have h1 := ho1 b x hb hx
        have hbp : b < p := by rw [hp]; omega
        rw [hM5, Mem.get_push_old (get_live (hk4.1 b x hbp (hk3.1 b x hbp (hold2 b x h1))))]
        exact hk4.1 b x hbp (hk3.1 b x hbp (hold2 b x h1))
      · rw [hM5, Mem.size_push]
        have := get_live hb4.2.choose_spec.choose_spec.1
        omega
      · unfold putV
        rw [← hT]
  · rw [if_neg he] at hso
    subst hso
    have he' : (sortErr none R != 0) = true := by simpa using he
    simp only [zZ, reduceIte, Nat.reduceLT, Int.reduceToNat, Int.reduceLE, Int.reduceEq, Int.reduceLT, Nat.reduceEqDiff, Nat.reduceAdd, zMn]
    refine CW_seq (CW_seq (CW_region ?_))
    simp only [zZ, reduceIte, Nat.reduceLT, Int.reduceToNat, Int.reduceLE, Int.reduceEq, Int.reduceLT, Nat.reduceEqDiff, Nat.reduceAdd, zMn, he']
    refine CW_cond true (by rfl) (fun _ => CW_seq (CW_region ?_)) (fun h => by cases h)
    simp only [zZ, reduceIte, Nat.reduceLT, Int.reduceToNat, Int.reduceLE, Int.reduceEq, Int.reduceLT, Nat.reduceEqDiff, Nat.reduceAdd, zMn]
    refine CW_ret ?_
    simp only [zZ, reduceIte, Nat.reduceLT, Int.reduceToNat, Int.reduceLE, Int.reduceEq, Int.reduceLT, Nat.reduceEqDiff, Nat.reduceAdd, zMn, mEnd, sAnswer, sAnswer.sRes]
    exact ⟨M1, Thin.refl _, ho1, hs1, .inr ⟨h256, R, hst, .inr ⟨he, rfl⟩⟩⟩
end Go.Proofs.YtabffcplbjaklaaGreatDoor
namespace Go.Proofs.YtabffcplbjaklaaGreatDoor
open Go.RowKit Abs Stab
theorem equal_spec (a b : ByteArray) (ha : a.size < 4611686018427387904) (hb : b.size < 4611686018427387904) (m : Mem) :
    Abs.Spec Tryz.prog 30 [.string a, .string b] m fun u M => u = .tuple #[.bool (sameB a.data.toList b.data.toList), .int .i64 (max a.size b.size : Nat)] ∧ M = m :=
  Abs.Spec.of_flat (by intro x hx; simp at hx; rcases hx with rfl | rfl <;> rfl) rfl fun w => equal_any a b w ha hb
theorem slice_strs_from (get : Nat → Option Blk) (b n : Nat) (ro : Bool) (cs : List Value) (hb : get b = some (.cells ro 1 cs)) (k : Int) (h0 : 0 ≤ k) (h1 : k ≤ (n : Int)) :
    gSlice Tryz.prog get 59 (.slice (some ⟨b, 0, none⟩) n n) (some (.int .i64 k)) none = some (.slice (some ⟨b, k.toNat, none⟩) (n - k.toNat) (n - k.toNat)) := by
  unfold gSlice aBound
  simp only [Tryz.underlying59, inf_str, Abs.str_size, hb]
  rw [if_pos ⟨h0, h1⟩]
  simp
def Strict (S : List Header) : Prop := ∀ i x y, S[i]? = some x → S[i + 1]? = some y → x.id < y.id
def TakeIs (K : Nat) (M' : Mem) (S : List Header) (same : Bool) (u : Value) : Prop :=
  if same = true then ∃ V, u = .tuple #[V, .int .i64 0, .int .i64 0] ∧ HdrsOwn K M' V S else u = .tuple #[.slice none 0 0, .int .i64 (S.length + 2 : Nat), .int .i64 4]
set_option maxRecDepth 100000 in
set_option maxHeartbeats 4000000 in
theorem take_spec (key key' : ByteArray) (hk' : key'.size ≤ 1000000) (S : List Header) (hm : ∀ h ∈ S, mayH h = true) (hst : Strict S) (hl : S.length ≤ 256) (M : Mem) :
    Abs.Spec Tryz.prog 10 [.string key', .string (str (putV key S))] M fun u M' => (∀ b x, b < M.size → M.get b = some x → M'.get b = some x) ∧ M.size ≤ M'.size ∧
      TakeIs M.size M' S (sameB (Sha.tag key.data.toList (bodyOf S)) (Sha.tag key'.data.toList (bodyOf S))) u := by
  obtain ⟨G, hG⟩ : ∃ G, G = Sha.tag key.data.toList (bodyOf S) := ⟨_, rfl⟩
  have hGl : G.length = 32 := by rw [hG]; exact tag_len32 _ _
  have hTl := putV_len key S hm hl
  have hjl := join_len S G key hG
  have hTe := putV_join key S
  rw [← hG] at hTe ⊢
  obtain ⟨T, hT⟩ : ∃ T, T = putV key S := ⟨_, rfl⟩
  obtain ⟨R, hR⟩ : ∃ R, R = Lib.join (linesOf S G) [10] := ⟨_, rfl⟩
  rw [← hT] at hTl hjl hTe ⊢
  rw [← hR] at hjl hTe
  refine Abs.Spec.walkM Tryz.func10 (by rfl) _ Tryz.results10 _ Tryz.ntmps10 (by simp) ?_
  intro hc hx k
  have zc10 : (⟨#[10]⟩ : ByteArray) = str [10] := rfl
  have ztag : (⟨#[116, 97, 103, 32]⟩ : ByteArray) = str tagW := rfl
  have zfirst : (⟨#[115, 108, 101, 100, 103, 101, 32, 109, 97, 110, 105, 102, 101, 115, 116, 32, 49]⟩ : ByteArray) = str firstW := rfl
  have hlen : (linesOf S G).length = S.length + 2 := by simp [linesOf]
  have hcut := fun (m : Mem) => suffix_spec (str T) (str [10]) (by rw [str_size]; omega) m
  have hcv : Lib.trimSuffix (str T).data.toList (str [10]).data.toList = R := by show Lib.trimSuffix T [10] = R; rw [hTe]; exact trim_eq R 10
  have hcb : Lib.hasSuffix (str T).data.toList (str [10]).data.toList = true := (suffix_iff T 10).2 ⟨R, hTe⟩
  rw [hcv, hcb] at hcut
  have hsp := fun (m : Mem) => msplit_spec (linesOf S G) 10 (by simp [linesOf]) (lines_free S G) (by rw [← hR]; omega) m
  rw [← hR, hlen] at hsp
  obtain ⟨W, hW⟩ : ∃ W, W = wC (linesOf S G) := ⟨_, rfl⟩
  rw [← hW] at hsp
  refine CW_seq (CW_region ?_)
  simp only [zZ, reduceIte, Nat.reduceLT, Int.reduceToNat, Int.reduceLE, Int.reduceEq, Int.reduceLT, Nat.reduceEqDiff, Nat.reduceAdd, zMn]
  refine CW_seq (CW_region ?_)
  simp only [zZ, reduceIte, Nat.reduceLT, Int.reduceToNat, Int.reduceLE, Int.reduceEq, Int.reduceLT, Nat.reduceEqDiff, Nat.reduceAdd, zMn, zc10]
  refine ⟨by kernel_rfl, _, hcut M, ?_⟩
  rintro _ M9 ⟨rfl, e9⟩; replace e9 := e9.symm; subst e9
  simp only [zZ, reduceIte, Nat.reduceLT, Int.reduceToNat, Int.reduceLE, Int.reduceEq, Int.reduceLT, Nat.reduceEqDiff, Nat.reduceAdd, zMn]
  refine CW_seq (CW_region ?_)
  simp only [zZ, reduceIte, Nat.reduceLT, Int.reduceToNat, Int.reduceLE, Int.reduceEq, Int.reduceLT, Nat.reduceEqDiff, Nat.reduceAdd, zMn, zc10]
  refine ⟨by kernel_rfl, _, hsp M, ?_⟩
  rintro _ M1 ⟨rfl, hM1⟩
  have hg1 : M1.get M.size = some (.cells false 1 W) := by
    rw [hM1]
    have := ext_get M [some (some (.cells false 1 W))] 0
    rw [Nat.add_zero] at this
    rw [this]; rfl
  have hs1 : M1.size = M.size + 1 := by rw [hM1, ext_size]; rfl
  have hold1 : ∀ b x, M.get b = some x → M1.get b = some x := fun b x hb => by rw [hM1]; exact ext_get_old _ hb
  obtain ⟨g1, hgg⟩ : ∃ g1, g1 = M.size := ⟨_, rfl⟩
  rw [← hgg] at hg1 ⊢
  simp only [zZ, reduceIte, Nat.reduceLT, Int.reduceToNat, Int.reduceLE, Int.reduceEq, Int.reduceLT, Nat.reduceEqDiff, Nat.reduceAdd, zMn]
  have w0 : W[0]? = some (.string (str firstW)) := by rw [hW]; rfl
  have n0 : (0 : Int) < ((S.length + 2 : Nat) : Int) := by omega
  have bq : beqB (str firstW) (str firstW) = true := by rw [beqB_dec]; exact decide_eq_true rfl
  refine CW_seq (CW_seq (CW_region ?_))
  simp only [zZ, reduceIte, Nat.reduceLT, Int.reduceToNat, Int.reduceLE, Int.reduceEq, Int.reduceLT, Nat.reduceEqDiff, Nat.reduceAdd, zMn, n0, and_self, hg1, w0, zfirst, bq, Bool.not_true, Bool.not_false]
  refine CW_cond false (by rfl) (fun h => by cases h) (fun _ => CW_skip ?_)
  simp only [zZ, reduceIte, Nat.reduceLT, Int.reduceToNat, Int.reduceLE, Int.reduceEq, Int.reduceLT, Nat.reduceEqDiff, Nat.reduceAdd]
  refine CW_seq (CW_region ?_)
  simp only [zZ, reduceIte, Nat.reduceLT, Int.reduceToNat, Int.reduceLE, Int.reduceEq, Int.reduceLT, Nat.reduceEqDiff, Nat.reduceAdd, zMn]
  have hsl : gSlice Tryz.prog M1.get 59 (.slice (some ⟨g1, 0, none⟩) (S.length + 2) (S.length + 2)) (some (.int .i64 1)) none = some (.slice (some ⟨g1, 1, none⟩) (S.length + 1) (S.length + 1)) := by
    rw [slice_strs_from M1.get g1 (S.length + 2) false W hg1 1 (by decide) (by omega)]
    rfl
  have wi : ∀ (i : Nat) (x : Header), S[i]? = some x → W[1 + i]? = some (.string (str (lineV x))) := fun i x hx => by
    rw [hW]
    unfold wC linesOf
    rw [List.getElem?_map, Nat.add_comm 1 i, List.getElem?_cons_succ, List.getElem?_append_left (by rw [List.length_map]; exact (List.getElem?_eq_some_iff.1 hx).1), List.getElem?_map, hx]
    rfl
  have wt : W[1 + S.length]? = some (.string (str (tagLine G))) := by
    rw [hW]
    unfold wC linesOf
    rw [List.getElem?_map, Nat.add_comm 1 S.length, List.getElem?_cons_succ, List.getElem?_append_right (by simp)]
    simp
  have hal : nAlloc Tryz.prog 40 = some (.cells false (aStride Tryz.prog 40) zeroH) := al_Hdr
  generalize aStride Tryz.prog 40 = s2 at hal
  refine CW_seq (CW_seq (CW_region ?_))
  simp only [zZ, reduceIte, Nat.reduceLT, Int.reduceToNat, Int.reduceLE, Int.reduceEq, Int.reduceLT, Nat.reduceEqDiff, Nat.reduceAdd, zMn, hsl]
  refine CW_block (MW_loop (fun j f M' => ∃ (i : Nat) (V : Value), j = S.length + 1 - i ∧ f = [(0, .string key'), (1, .string (str T)), (8, .bool true), (9, .slice (some ⟨g1, 0, none⟩) (S.length + 2) (S.length + 2)), (10, V), (42, .slice (some ⟨g1, 1, none⟩) (S.length + 1) (S.length + 1)), (43, .int .i64 (S.length + 1 : Nat)), (44, .int .i64 (i : Nat))] ∧
    i ≤ S.length ∧ HdrsOwn M1.size M' V (S.take i) ∧ (∀ b x, b < M1.size → M1.get b = some x → M'.get b = some x) ∧ M1.size ≤ M'.size) (S.length + 1) ?_ ?_)
  · refine ⟨[0, 1, 8, 9, 10, 42, 43, 44], ?_⟩
    simp only [zZ, reduceIte, Nat.reduceLT, Int.reduceToNat, Int.reduceLE, Int.reduceEq, Int.reduceLT, Nat.reduceEqDiff, Nat.reduceAdd, keepF]
    exact ⟨M1, Thin.refl _, 0, _, rfl, rfl, by omega, .inl ⟨by simp, rfl⟩, fun _ _ _ h => h, Nat.le_refl _⟩
  · rintro j f M' ⟨i, V, rfl, rfl, hi, hown, hold, hsz⟩
    have hiT : decide ((i : Int) < ((S.length + 1 : Nat) : Int)) = true := decide_eq_true (by omega)
    have hi1 : (i : Int) < ((S.length + 1 : Nat) : Int) := by omega
    have z0 : (0 : Int) ≤ (i : Int) := by omega
    have hgM := hold g1 _ (by rw [hgg]; omega) hg1
    have htl : (S.take i).length = i := by rw [List.length_take]; omega
    have w9 : IntKind.i64.wrap ((i : Int) + 1) = ((i + 1 : Nat) : Int) := by rw [wri (by omega) (by omega)]; omega
    have w2 : IntKind.i64.wrap ((i : Int) + 2) = ((i + 2 : Nat) : Int) := by rw [wri (by omega) (by omega)]; omega
    have olds : ∀ b x, b < M.size → M.get b = some x → M'.get b = some x := fun b x hb hx => hold b x (by omega) (hold1 b x hx)
    refine CW_seq (CW_region ?_)
    simp only [zZ, reduceIte, Nat.reduceLT, Int.reduceToNat, Int.reduceLE, Int.reduceEq, Int.reduceLT, Nat.reduceEqDiff, Nat.reduceAdd, zMn, hiT]
    refine CW_seq (CW_cond true (by rfl) (fun _ => CW_skip ?_) (fun h => by cases h))
    simp only [zZ, reduceIte, Nat.reduceLT, Int.reduceToNat, Int.reduceLE, Int.reduceEq, Int.reduceLT, Nat.reduceEqDiff, Nat.reduceAdd]
    by_cases hiS : i < S.length
    · obtain ⟨x, hX⟩ : ∃ x, S[i]? = some x := ⟨_, List.getElem?_eq_getElem hiS⟩
      have hmx := hm x (List.mem_of_getElem? hX)
      have mb := may_of hmx
      have hwi := wi i x hX
      have hcp := fun (m : Mem) => cutPrefix_spec (str (lineV x)) (str tagW) m
      have hcf : Lib.hasPrefix (str (lineV x)).data.toList (str tagW).data.toList = false := line_noTag x mb.id.1
      rw [hcf] at hcp
      have hrd := mread_spec x hmx
      refine CW_seq (CW_block (CW_seq (CW_region ?_)))
      simp only [zZ, reduceIte, Nat.reduceLT, Int.reduceToNat, Int.reduceLE, Int.reduceEq, Int.reduceLT, Nat.reduceEqDiff, Nat.reduceAdd, zMn, z0, hi1, and_self, hgM, hwi]
      refine CW_seq (CW_seq (CW_region ?_))
      simp only [zZ, reduceIte, Nat.reduceLT, Int.reduceToNat, Int.reduceLE, Int.reduceEq, Int.reduceLT, Nat.reduceEqDiff, Nat.reduceAdd, zMn, ztag]
      refine ⟨by kernel_rfl, _, hcp M', ?_⟩
      rintro _ M9 ⟨rfl, e9⟩; replace e9 := e9.symm; subst e9
      simp only [zZ, reduceIte, Nat.reduceLT, Int.reduceToNat, Int.reduceLE, Int.reduceEq, Int.reduceLT, Nat.reduceEqDiff, Nat.reduceAdd, zMn]
      refine CW_seq (CW_region ?_)
      simp only [zZ, reduceIte, Nat.reduceLT, Int.reduceToNat, Int.reduceLE, Int.reduceEq, Int.reduceLT, Nat.reduceEqDiff, Nat.reduceAdd, zMn]
      refine CW_cond false (by rfl) (fun h => by cases h) (fun _ => CW_skip ?_)
      simp only [zZ, reduceIte, Nat.reduceLT, Int.reduceToNat, Int.reduceLE, Int.reduceEq, Int.reduceLT, Nat.reduceEqDiff, Nat.reduceAdd]
      refine CW_seq (CW_region ?_)
      simp only [zZ, reduceIte, Nat.reduceLT, Int.reduceToNat, Int.reduceLE, Int.reduceEq, Int.reduceLT, Nat.reduceEqDiff, Nat.reduceAdd, zMn]
      refine ⟨by kernel_rfl, _, hrd M', ?_⟩
      rintro _ M9 ⟨rfl, e9⟩; replace e9 := e9.symm; subst e9
      have hput : putIn 7 (M'.push (.cells false s2 zeroH)) M'.size 0 x.cells (some (.cells false s2 zeroH)) = some (M'.push (.cells false s2 x.cells)) := by
        simp only [putIn]
        rw [if_pos ⟨rfl, Nat.le_refl 7, rfl⟩]
        congr 1
        exact push_set _ _ _
      simp only [zZ, reduceIte, Nat.reduceLT, Int.reduceToNat, Int.reduceLE, Int.reduceEq, Int.reduceLT, Nat.reduceEqDiff, Nat.reduceAdd, zMn, hal, Mem.get_push_new, agg_cells, List.toList_toArray, hput]
      obtain ⟨M4, hM4⟩ : ∃ M4, M4 = M'.push (.cells false s2 x.cells) := ⟨_, rfl⟩
      obtain ⟨bs, hbs⟩ : ∃ bs, bs = M'.size := ⟨_, rfl⟩
      have hg4 : M4.get bs = some (.cells false s2 x.cells) := by rw [hM4, hbs, Mem.get_push_new]
      have hold4 : ∀ b y, M'.get b = some y → M4.get b = some y := fun b y hy => by rw [hM4, Mem.get_push_old (get_live hy)]; exact hy
      have hs4 : M4.size = M'.size + 1 := by rw [hM4, Mem.size_push]
      have rx : rowIn 7 0 (some (.cells false s2 x.cells)) = some (.agg x.cells.toArray) := rfl
      have cx : cellIn 0 (some (.cells false s2 x.cells)) = some (.int .i64 x.id) := rfl
      have cx' : x.cells[0]? = some (.int .i64 x.id) := rfl
      rw [← hM4, ← hbs]
      have hown4 := hown.same (M' := M4) fun b y _ hy => hold4 b y hy
      obtain ⟨a1, c1, hV⟩ := hown.len
      rw [htl] at hV
      subst hV
      obtain ⟨M5, V5, ap5, hb5, hown5, hs5, hold5⟩ := happ hown4 (by omega) (by omega) x
      have nw := new_hdr1 x
      have q256 : ((i : Int) == 256) = false := by rw [beq_eq_false_iff_ne]; omega
      have e5 : S.take i ++ [x] = S.take (i + 1) := by rw [List.take_add_one, hX]; rfl
      rw [e5] at hown5
      refine CW_seq (CW_seq (CW_draw hmix 16 (by kernel_rfl) (by kernel_rfl) ?_))
      have done : ∀ (f : AL), True := fun _ => trivial
      have hkeep5 : ∀ b y, b < M1.size → M1.get b = some y → M5.get b = some y := fun b y hb hy => hold5 b y (fun e => by have := (hown4.live e).1; omega) (hold4 b y (hold b y hb hy))
      by_cases hi0 : i = 0
      · have q1 : decide ((i : Int) > 0) = false := decide_eq_false (by omega)
        simp only [zZ, reduceIte, Nat.reduceLT, Int.reduceToNat, Int.reduceLE, Int.reduceEq, Int.reduceLT, Nat.reduceEqDiff, Nat.reduceAdd, zMn, q1]
        refine CW_cond false (by rfl) (fun h => by cases h) (fun _ => CW_skip ?_)
        simp only [zZ, reduceIte, Nat.reduceLT, Int.reduceToNat, Int.reduceLE, Int.reduceEq, Int.reduceLT, Nat.reduceEqDiff, Nat.reduceAdd]
        refine CW_seq (CW_seq (CW_region ?_))
        simp only [zZ, reduceIte, Nat.reduceLT, Int.reduceToNat, Int.reduceLE, Int.reduceEq, Int.reduceLT, Nat.reduceEqDiff, Nat.reduceAdd, zMn, q256]
        refine CW_cond false (by rfl) (fun h => by cases h) (fun _ => CW_skip ?_)
        simp only [zZ, reduceIte, Nat.reduceLT, Int.reduceToNat, Int.reduceLE, Int.reduceEq, Int.reduceLT, Nat.reduceEqDiff, Nat.reduceAdd]
        refine CW_region ?_
        simp only [zZ, reduceIte, Nat.reduceLT, Int.reduceToNat, Int.reduceLE, Int.reduceEq, Int.reduceLT, Nat.reduceEqDiff, Nat.reduceAdd, zMn, hg4, rx, nw, ap5]
        refine CW_region ?_
        simp only [zZ, reduceIte, Nat.reduceLT, Int.reduceToNat, Int.reduceLE, Int.reduceEq, Int.reduceLT, Nat.reduceEqDiff, Nat.reduceAdd, zMn, w9]
        refine ⟨[0, 1, 8, 9, 10, 42, 43, 44], ?_⟩
        simp only [zZ, reduceIte, Nat.reduceLT, Int.reduceToNat, Int.reduceLE, Int.reduceEq, Int.reduceLT, Nat.reduceEqDiff, Nat.reduceAdd, keepF]
        exact ⟨M5, Thin.refl _, S.length + 1 - (i + 1), ⟨i + 1, V5, rfl, rfl, by omega, hown5, hkeep5, by omega⟩, by omega⟩
      · have q1 : decide ((i : Int) > 0) = true := decide_eq_true (by omega)
        obtain ⟨y, hY⟩ : ∃ y, S[i - 1]? = some y := ⟨_, List.getElem?_eq_getElem (by omega)⟩
        have hYt : (S.take i)[i - 1]? = some y := by rw [List.getElem?_take, if_pos (by omega)]; exact hY
        obtain ⟨g3, rfl, hg3⟩ : ∃ g3, a1 = some ⟨g3, 0, none⟩ ∧ HdrsIn M4 g3 (S.take i) := by
          rcases hown4 with ⟨h1, _⟩ | ⟨h1, g, _, h3, h4⟩
          · rw [h1] at hYt; cases hYt
          · rw [htl] at h3
            cases h3; exact ⟨g, rfl, h4⟩
        have cy := hdr_cell hYt (o := 0) (by decide) false 7 (.int .i64 y.id) rfl rfl
        rw [Nat.add_zero] at cy
        unfold HdrsIn at hg3
        have w1 : IntKind.i64.wrap ((i : Int) - 1) = ((i - 1 : Nat) : Int) := by rw [wri (by omega) (by omega)]; omega
        have z1 : (0 : Int) ≤ ((i - 1 : Nat) : Int) := by omega
        have z2 : ((i - 1 : Nat) : Int) < (i : Int) := by omega
        have hlt := hst (i - 1) y x hY (by rw [show i - 1 + 1 = i by omega]; exact hX)
        have qd : decide (x.id ≤ y.id) = false := decide_eq_false (by omega)
        simp only [zZ, reduceIte, Nat.reduceLT, Int.reduceToNat, Int.reduceLE, Int.reduceEq, Int.reduceLT, Nat.reduceEqDiff, Nat.reduceAdd, zMn, q1, w1, z1, z2, and_self, hg3, hg4, cy, cx, cx', qd]
        refine CW_cond false (by rfl) (fun h => by cases h) (fun _ => CW_skip ?_)
        simp only [zZ, reduceIte, Nat.reduceLT, Int.reduceToNat, Int.reduceLE, Int.reduceEq, Int.reduceLT, Nat.reduceEqDiff, Nat.reduceAdd]
        refine CW_seq (CW_seq (CW_region ?_))
        simp only [zZ, reduceIte, Nat.reduceLT, Int.reduceToNat, Int.reduceLE, Int.reduceEq, Int.reduceLT, Nat.reduceEqDiff, Nat.reduceAdd, zMn, q256]
        refine CW_cond false (by rfl) (fun h => by cases h) (fun _ => CW_skip ?_)
        simp only [zZ, reduceIte, Nat.reduceLT, Int.reduceToNat, Int.reduceLE, Int.reduceEq, Int.reduceLT, Nat.reduceEqDiff, Nat.reduceAdd]
        refine CW_region ?_
        simp only [zZ, reduceIte, Nat.reduceLT, Int.reduceToNat, Int.reduceLE, Int.reduceEq, Int.reduceLT, Nat.reduceEqDiff, Nat.reduceAdd, zMn, hg4, rx, nw, ap5]
        refine CW_region ?_
        simp only [zZ, reduceIte, Nat.reduceLT, Int.reduceToNat, Int.reduceLE, Int.reduceEq, Int.reduceLT, Nat.reduceEqDiff, Nat.reduceAdd, zMn, w9]
        refine ⟨[0, 1, 8, 9, 10, 42, 43, 44], ?_⟩
        simp only [zZ, reduceIte, Nat.reduceLT, Int.reduceToNat, Int.reduceLE, Int.reduceEq, Int.reduceLT, Nat.reduceEqDiff, Nat.reduceAdd, keepF]
        exact ⟨M5, Thin.refl _, S.length + 1 - (i + 1), ⟨i + 1, V5, rfl, rfl, by omega, hown5, hkeep5, by omega⟩, by omega⟩
    · have hiE : i = S.length := by omega
      subst hiE
      rw [List.take_of_length_le (Nat.le_refl _)] at hown
      have hcp := fun (m : Mem) => cutPrefix_spec (str (tagLine G)) (str tagW) m
      have hcf : Lib.hasPrefix (str (tagLine G)).data.toList (str tagW).data.toList = true := tag_has (hexV G)
      have hct : Lib.trimPrefix (str (tagLine G)).data.toList (str tagW).data.toList = hexV G := tag_trim (hexV G)
      have hGe : hexV G = hexL G := hexV_full fun e => by rw [e] at hGl; cases hGl
      rw [hcf, hct, hGe] at hcp
      have hun := munhex_spec G 32 hGl (by decide) (by decide)
      have htagl : (tagLine G).length = 4 + 64 := by
        unfold tagLine
        rw [hGe, List.length_append, hexL_len, hGl]
        rfl
      have hTb : T = bodyOf S ++ (tagLine G ++ [10]) := by
        rw [hT]
        unfold putV tagLine
        rw [← hG]
        simp
      have hTlen : T.length = (bodyOf S).length + (tagLine G).length + 1 := by
        rw [hTb]; simp only [List.length_append, List.length_cons, List.length_nil]; omega
      have w3 : IntKind.i64.wrap ((T.length : Int) - ((tagLine G).length : Int)) = (((bodyOf S).length + 1 : Nat) : Int) := by rw [wri (by omega) (by omega)]; omega
      have w4 : IntKind.i64.wrap ((((bodyOf S).length + 1 : Nat) : Int) - 1) = ((bodyOf S).length : Int) := by rw [wri (by omega) (by omega)]; omega
      have hst2 : ∀ get, gSlice Tryz.prog get 9 (.string (str T)) none (some (.int .i64 ((bodyOf S).length : Int))) = some (.string (str (bodyOf S))) := fun get => by
        rw [slice_to get (str T) (bodyOf S).length (by rw [str_size]; omega)]
        show some (Value.string (str (T.take (bodyOf S).length))) = _
        rw [hTb, List.take_left']
        rfl
      have q5 : decide (((S.length + 2 : Nat) : Int) < ((S.length + 2 : Nat) : Int)) = false := decide_eq_false (by omega)
      have hbs1 : bsize (str T) = T.length := rfl
      have hbs2 : bsize (str (tagLine G)) = (tagLine G).length := rfl
      refine CW_seq (CW_block (CW_seq (CW_region ?_)))
      simp only [zZ, reduceIte, Nat.reduceLT, Int.reduceToNat, Int.reduceLE, Int.reduceEq, Int.reduceLT, Nat.reduceEqDiff, Nat.reduceAdd, zMn, z0, hi1, and_self, hgM, wt]
      refine CW_seq (CW_seq (CW_region ?_))
      simp only [zZ, reduceIte, Nat.reduceLT, Int.reduceToNat, Int.reduceLE, Int.reduceEq, Int.reduceLT, Nat.reduceEqDiff, Nat.reduceAdd, zMn, ztag]
      refine ⟨by kernel_rfl, _, hcp M', ?_⟩
      rintro _ M9 ⟨rfl, e9⟩; replace e9 := e9.symm; subst e9
      simp only [zZ, reduceIte, Nat.reduceLT, Int.reduceToNat, Int.reduceLE, Int.reduceEq, Int.reduceLT, Nat.reduceEqDiff, Nat.reduceAdd, zMn]
      refine CW_seq (CW_region ?_)
      simp only [zZ, reduceIte, Nat.reduceLT, Int.reduceToNat, Int.reduceLE, Int.reduceEq, Int.reduceLT, Nat.reduceEqDiff, Nat.reduceAdd, zMn]
      refine CW_cond true (by rfl) (fun _ => CW_seq (CW_region ?_)) (fun h => by cases h)
      simp only [zZ, reduceIte, Nat.reduceLT, Int.reduceToNat, Int.reduceLE, Int.reduceEq, Int.reduceLT, Nat.reduceEqDiff, Nat.reduceAdd, zMn]
      refine ⟨by kernel_rfl, _, hun M', ?_⟩
      rintro _ M9 ⟨rfl, e9⟩; replace e9 := e9.symm; subst e9
      simp only [zZ, reduceIte, Nat.reduceLT, Int.reduceToNat, Int.reduceLE, Int.reduceEq, Int.reduceLT, Nat.reduceEqDiff, Nat.reduceAdd, zMn]
      refine CW_seq (CW_seq (CW_region ?_))
      simp only [zZ, reduceIte, Nat.reduceLT, Int.reduceToNat, Int.reduceLE, Int.reduceEq, Int.reduceLT, Nat.reduceEqDiff, Nat.reduceAdd, zMn, w2, q5, Bool.not_true]
      refine CW_cond false (by rfl) (fun h => by cases h) (fun _ => CW_skip ?_)
      simp only [zZ, reduceIte, Nat.reduceLT, Int.reduceToNat, Int.reduceLE, Int.reduceEq, Int.reduceLT, Nat.reduceEqDiff, Nat.reduceAdd]
      refine CW_seq (CW_seq (CW_region ?_))
      simp only [zZ, reduceIte, Nat.reduceLT, Int.reduceToNat, Int.reduceLE, Int.reduceEq, Int.reduceLT, Nat.reduceEqDiff, Nat.reduceAdd, zMn, hbs1, hbs2, w3, w4, hst2, new_one]
      obtain ⟨M5, hM5⟩ : ∃ M5, M5 = M'.push (.cells false 1 [.string (str (bodyOf S))]) := ⟨_, rfl⟩
      rw [← hM5]
      have hg5 : M5.get M'.size = some (.cells false 1 [.string (str (bodyOf S))]) := by rw [hM5, Mem.get_push_new]
      have hj : joined [str (bodyOf S)] = bodyOf S := joined_one _
      obtain ⟨G', hG'⟩ : ∃ G', G' = Sha.tag key'.data.toList (bodyOf S) := ⟨_, rfl⟩
      have hGl' : G'.length = 32 := by rw [hG']; exact tag_len32 _ _
      refine ⟨by kernel_rfl, _, mtag_spec key' (.slice (some ⟨M'.size, 0, none⟩) 1 1) [str (bodyOf S)] M5 ⟨_, _, rfl, rfl, Nat.le_refl _, (show 1 ≤ maxLen by decide), (fun h => by cases h), fun p hp => ⟨_, (Option.some.inj hp).symm, fun _ => ⟨false, hg5⟩⟩⟩ (by omega) (show 1 ≤ maxLen by decide) (by rw [hj]; omega), ?_⟩
      rintro _ M9 ⟨rfl, e9⟩; replace e9 := e9.symm; subst e9
      rw [hj, ← hG']
      simp only [zZ, reduceIte, Nat.reduceLT, Int.reduceToNat, Int.reduceLE, Int.reduceEq, Int.reduceLT, Nat.reduceEqDiff, Nat.reduceAdd, zMn]
      refine ⟨by kernel_rfl, _, equal_spec (str G) (str G') (by rw [str_size]; omega) (by rw [str_size]; omega) M5, ?_⟩
      rintro _ M9 ⟨rfl, e9⟩; replace e9 := e9.symm; subst e9
      have hsm : sameB (str G).data.toList (str G').data.toList = sameB G G' := rfl
      rw [hsm]
      have hold5 : ∀ b y, M'.get b = some y → M5.get b = some y := fun b y hy => by rw [hM5, Mem.get_push_old (get_live hy)]; exact hy
      have hs5 : M5.size = M'.size + 1 := by rw [hM5, Mem.size_push]
      cases qs : sameB G G'
      · simp only [zZ, reduceIte, Nat.reduceLT, Int.reduceToNat, Int.reduceLE, Int.reduceEq, Int.reduceLT, Nat.reduceEqDiff, Nat.reduceAdd, zMn]
        refine CW_seq (CW_region ?_)
        simp only [zZ, reduceIte, Nat.reduceLT, Int.reduceToNat, Int.reduceLE, Int.reduceEq, Int.reduceLT, Nat.reduceEqDiff, Nat.reduceAdd, zMn]
        refine CW_cond true (by rfl) (fun _ => CW_seq (CW_region ?_)) (fun h => by cases h)
        simp only [zZ, reduceIte, Nat.reduceLT, Int.reduceToNat, Int.reduceLE, Int.reduceEq, Int.reduceLT, Nat.reduceEqDiff, Nat.reduceAdd, zMn, w2]
        refine CW_ret ?_
        simp only [zZ, reduceIte, Nat.reduceLT, Int.reduceToNat, Int.reduceLE, Int.reduceEq, Int.reduceLT, Nat.reduceEqDiff, Nat.reduceAdd, zMn, mEnd, sAnswer, sAnswer.sRes]
        refine ⟨M5, Thin.refl _, fun b y hb hy => hold5 b y (olds b y (by omega) hy), by omega, ?_⟩
        unfold TakeIs
        rw [if_neg (by simp)]
      · simp only [zZ, reduceIte, Nat.reduceLT, Int.reduceToNat, Int.reduceLE, Int.reduceEq, Int.reduceLT, Nat.reduceEqDiff, Nat.reduceAdd, zMn]
        refine CW_seq (CW_region ?_)
        simp only [zZ, reduceIte, Nat.reduceLT, Int.reduceToNat, Int.reduceLE, Int.reduceEq, Int.reduceLT, Nat.reduceEqDiff, Nat.reduceAdd, zMn]
        refine CW_cond false (by rfl) (fun h => by cases h) (fun _ => CW_skip ?_)
        simp only [zZ, reduceIte, Nat.reduceLT, Int.reduceToNat, Int.reduceLE, Int.reduceEq, Int.reduceLT, Nat.reduceEqDiff, Nat.reduceAdd]
        refine CW_seq (CW_region ?_)
        simp only [zZ, reduceIte, Nat.reduceLT, Int.reduceToNat, Int.reduceLE, Int.reduceEq, Int.reduceLT, Nat.reduceEqDiff, Nat.reduceAdd, zMn]
        refine CW_ret ?_
        simp only [zZ, reduceIte, Nat.reduceLT, Int.reduceToNat, Int.reduceLE, Int.reduceEq, Int.reduceLT, Nat.reduceEqDiff, Nat.reduceAdd, zMn, mEnd, sAnswer, sAnswer.sRes]
        refine ⟨M5, Thin.refl _, fun b y hb hy => hold5 b y (olds b y (by omega) hy), by omega, ?_⟩
        unfold TakeIs
        rw [if_pos rfl]
        refine ⟨V, rfl, ?_⟩
        rcases hown with h0 | ⟨h0, g, h1, h2, h3⟩
        · exact .inl h0
        · exact .inr ⟨h0, g, by omega, h2, hold5 _ _ h3⟩
end Go.Proofs.YtabffcplbjaklaaGreatDoor
namespace Go.Proofs.YtabffcplbjaklaaGreatDoor
open Go.RowKit Abs
def chainH : List Bool → Option Bool
  | [] => some true
  | b :: r => match some b with
    | some true => chainH r
    | some false => some false
    | none => none
theorem chainH_eq : ∀ l : List Bool, chainH l = some (l.all id)
  | [] => rfl
  | true :: r => by simp [chainH, chainH_eq r]
  | false :: r => by simp [chainH]
def sameH (x y : Header) : Bool := [x.id == y.id, beqB x.salt y.salt, x.n == y.n, x.bytes == y.bytes, x.raw == y.raw, beqB x.root y.root, beqB x.tag y.tag].all id
theorem sameH_iff (x y : Header) : sameH x y = true ↔ x = y := by
  obtain ⟨a0, a1, a2, a3, a4, a5, a6⟩ := x
  obtain ⟨b0, b1, b2, b3, b4, b5, b6⟩ := y
  unfold sameH
  simp only [List.all_cons, List.all_nil, id, Bool.and_true, Bool.and_eq_true, beq_iff_eq, decide_eq_true_eq, Header.mk.injEq, beqB_dec]
theorem sameH_self (x : Header) : sameH x x = true := (sameH_iff x x).2 rfl
set_option maxRecDepth 100000 in
theorem hdr_neq (cx : Bool) (x y : Header) : aBin Tryz.prog .neq 40 cx (.agg x.cells.toArray) (.agg y.cells.toArray) = some (.bool (!sameH x y)) := by
  obtain ⟨a0, a1, a2, a3, a4, a5, a6⟩ := x
  obtain ⟨b0, b1, b2, b3, b4, b5, b6⟩ := y
  have e0 : aBin Tryz.prog .neq 40 cx (.agg (Header.cells ⟨a0, a1, a2, a3, a4, a5, a6⟩).toArray) (.agg (Header.cells ⟨b0, b1, b2, b3, b4, b5, b6⟩).toArray) = (chainH [a0 == b0, beqB a1 b1, a2 == b2, a3 == b3, a4 == b4, beqB a5 b5, beqB a6 b6]).map fun b => .bool (!b) := by cases cx <;> kernel_rfl
  rw [e0, chainH_eq, Option.map_some]
  rfl
end Go.Proofs.YtabffcplbjaklaaGreatDoor
namespace Go.Proofs.YtabffcplbjaklaaGreatDoor
open Go.RowKit Abs Stab
theorem stable_nil' {R : List Header} (h : Stable hid [] R) : R = [] := List.eq_nil_of_length_eq_zero h.len
set_option maxRecDepth 100000 in
theorem tags_differ : sameB (Sha.tag [107] (bodyOf [])) (Sha.tag [111, 116, 104, 101, 114] (bodyOf [])) = false := by decide +kernel
set_option maxRecDepth 100000 in
set_option maxHeartbeats 4000000 in
theorem awake46_spec (M : Mem) : Abs.Spec Tryz.prog 7 [] M fun u _ => u = .bool true := by
  refine Abs.Spec.walkM Tryz.func7 (by rfl) _ Tryz.results7 _ Tryz.ntmps7 (by simp) ?_
  intro hc hx k
  have zk : (⟨#[107]⟩ : ByteArray) = str [107] := rfl
  have zo : (⟨#[111, 116, 104, 101, 114]⟩ : ByteArray) = str [111, 116, 104, 101, 114] := rfl
  obtain ⟨K, hK⟩ : ∃ K, K = str [107] := ⟨_, rfl⟩
  obtain ⟨O, hO⟩ : ∃ O, O = str [111, 116, 104, 101, 114] := ⟨_, rfl⟩
  rw [← hK] at zk
  rw [← hO] at zo
  have hKs : K.size ≤ 1000000 := by rw [hK]; decide
  have hOs : O.size ≤ 1000000 := by rw [hO]; decide
  have nil1 : ∀ M : Mem, HdrsOwn M.size M (.slice none 0 0) [] := fun M => .inl ⟨rfl, rfl⟩
  have hput := put_spec K hKs M.size M (.slice none 0 0) [] (nil1 M) (by decide) (by intro h hh; cases hh)
  refine CW_seq (CW_region ?_)
  simp only [zZ, reduceIte, Nat.reduceLT, Int.reduceToNat, Int.reduceLE, Int.reduceEq, Int.reduceLT, Nat.reduceEqDiff, Nat.reduceAdd, zMn]
  refine CW_seq (CW_region ?_)
  simp only [zZ, reduceIte, Nat.reduceLT, Int.reduceToNat, Int.reduceLE, Int.reduceEq, Int.reduceLT, Nat.reduceEqDiff, Nat.reduceAdd, zMn, zk]
  refine ⟨by kernel_rfl, _, hput, ?_⟩
  rintro u M1 ⟨_, hs1, hp⟩
  obtain ⟨T, hT⟩ : ∃ T, T = putV K [] := ⟨_, rfl⟩
  have hu : u = .tuple #[.string (str T), .int .i64 0] := by
    rcases hp with ⟨h1, _⟩ | ⟨_, R, h2, h3⟩
    · simp at h1
    · obtain rfl := stable_nil' h2
      rcases h3 with ⟨_, rfl⟩ | ⟨h4, _⟩
      · rw [hT]
      · exact absurd rfl h4
  subst hu
  have htk := fun (k2 : ByteArray) (h : k2.size ≤ 1000000) (m : Mem) => take_spec K k2 h [] (by intro h hh; cases hh) (by intro i x y h1; simp at h1) (by decide) m
  simp only [← hT] at htk
  have hTl : T.length = 87 := by
    rw [hT]
    have hl : (Sha.tag K.data.toList (bodyOf [])).length = 32 := tag_len32 _ _
    have hne : Sha.tag K.data.toList (bodyOf []) ≠ [] := fun e => by rw [e] at hl; cases hl
    unfold putV
    rw [hexV_full hne]
    simp only [List.length_append, hexL_len, hl]
    rfl
  have hT18 : T.take 18 = firstW ++ [10] := by rw [hT]; rfl
  have hsame : sameB (Sha.tag K.data.toList (bodyOf [])) (Sha.tag K.data.toList (bodyOf [])) = true := decide_eq_true rfl
  have hdiff : sameB (Sha.tag K.data.toList (bodyOf [])) (Sha.tag O.data.toList (bodyOf [])) = false := by rw [hK, hO]; exact tags_differ
  simp only [zZ, reduceIte, Nat.reduceLT, Int.reduceToNat, Int.reduceLE, Int.reduceEq, Int.reduceLT, Nat.reduceEqDiff, Nat.reduceAdd, zMn]
  refine CW_seq (CW_region ?_)
  simp only [zZ, reduceIte, Nat.reduceLT, Int.reduceToNat, Int.reduceLE, Int.reduceEq, Int.reduceLT, Nat.reduceEqDiff, Nat.reduceAdd, zMn, zk]
  refine ⟨by kernel_rfl, _, htk K hKs M1, ?_⟩
  rintro u M2 ⟨_, hs2, ht2⟩
  rw [hsame] at ht2
  obtain ⟨V, rfl, hV⟩ := ht2
  rcases hV with ⟨_, rfl⟩ | ⟨h0, _⟩
  rotate_left
  · exact absurd rfl h0
  simp only [zZ, reduceIte, Nat.reduceLT, Int.reduceToNat, Int.reduceLE, Int.reduceEq, Int.reduceLT, Nat.reduceEqDiff, Nat.reduceAdd, zMn]
  refine CW_seq (CW_region ?_)
  simp only [zZ, reduceIte, Nat.reduceLT, Int.reduceToNat, Int.reduceLE, Int.reduceEq, Int.reduceLT, Nat.reduceEqDiff, Nat.reduceAdd, zMn, zo]
  refine ⟨by kernel_rfl, _, htk O hOs M2, ?_⟩
  rintro u M3 ⟨_, hs3, ht3⟩
  rw [hdiff] at ht3
  replace ht3 : u = .tuple #[.slice none 0 0, .int .i64 2, .int .i64 4] := ht3
  subst ht3
  have q87 : (((T.length : Nat) : Int) == 87) = true := by rw [hTl]; rfl
  have hbs : bsize (str T) = T.length := rfl
  have z18 : (⟨#[115, 108, 101, 100, 103, 101, 32, 109, 97, 110, 105, 102, 101, 115, 116, 32, 49, 10]⟩ : ByteArray) = str (firstW ++ [10]) := rfl
  have hsl : ∀ get, gSlice Tryz.prog get 9 (.string (str T)) none (some (.int .i64 18)) = some (.string (str (firstW ++ [10]))) := fun get => by
    have := slice_to get (str T) 18 (by rw [str_size]; omega)
    rw [show (str T).data.toList = T from rfl, hT18] at this
    exact this
  have bq : beqB (str (firstW ++ [10])) (str (firstW ++ [10])) = true := by rw [beqB_dec]; exact decide_eq_true rfl
  have c0 : (((0 : Nat) : Int) == 0) = true := rfl
  simp only [zZ, reduceIte, Nat.reduceLT, Int.reduceToNat, Int.reduceLE, Int.reduceEq, Int.reduceLT, Nat.reduceEqDiff, Nat.reduceAdd, zMn]
  refine CW_seq (CW_region ?_)
  simp only [zZ, reduceIte, Nat.reduceLT, Int.reduceToNat, Int.reduceLE, Int.reduceEq, Int.reduceLT, Nat.reduceEqDiff, Nat.reduceAdd, zMn, Int.reduceBEq, hbs, q87, hsl, z18, bq, c0]
  refine CW_ret ?_
  simp only [zZ, reduceIte, Nat.reduceLT, Int.reduceToNat, Int.reduceLE, Int.reduceEq, Int.reduceLT, Nat.reduceEqDiff, Nat.reduceAdd, zMn, mEnd, sAnswer, sAnswer.sRes]
  exact ⟨M3, Thin.refl _⟩
end Go.Proofs.YtabffcplbjaklaaGreatDoor
namespace Go.Proofs.YtabffcplbjaklaaGreatDoor
open Go.RowKit Abs
theorem hdr_flat (L : List Header) : (L.flatMap Header.cells).length = L.length * 7 := flatMap_len Header.cells 7 L fun x _ => hdr_len x
theorem take_flat (L : List Header) (k : Nat) (hk : k ≤ L.length) : (L.flatMap Header.cells).take (k * 7) = (L.take k).flatMap Header.cells := by
  have h : L = L.take k ++ L.drop k := (List.take_append_drop k L).symm
  have hl : ((L.take k).flatMap Header.cells).length = k * 7 := by rw [hdr_flat, List.length_take]; congr 1; omega
  conv => lhs; rw [h, List.flatMap_append]
  rw [List.take_append_of_le_length (by omega), List.take_of_length_le (by omega)]
theorem drop_flat (L : List Header) (k : Nat) (hk : k ≤ L.length) : (L.flatMap Header.cells).drop (k * 7) = (L.drop k).flatMap Header.cells := by
  have h : L = L.take k ++ L.drop k := (List.take_append_drop k L).symm
  have hl : ((L.take k).flatMap Header.cells).length = k * 7 := by rw [hdr_flat, List.length_take]; congr 1; omega
  conv => lhs; rw [h, List.flatMap_append]
  rw [List.drop_append_of_le_length (by omega), List.drop_eq_nil_of_le (by omega), List.nil_append]
theorem hcut_front {K : Nat} {M : Mem} {V : Value} {L : List Header} (h : HdrsOwn K M V L) (k : Nat) (hk : k ≤ L.length) :
    ∃ x, gSlice Tryz.prog M.get 22 V none (some (.int .i64 (k : Nat))) = some x ∧ ∀ M', (∀ b y, blkAt V = some b → M.get b = some y → M'.get b = some y) → aSrc Tryz.prog M' 22 7 x = some (k, (L.take k).flatMap Header.cells) := by
  rcases h with ⟨rfl, rfl⟩ | ⟨h0, g, hgk, rfl, hg⟩
  · have : k = 0 := by simpa using hk
    subst this
    refine ⟨.slice none 0 0, ?_, fun M' _ => ?_⟩
    · unfold gSlice aBound
      simp only [Tryz.underlying22, inf_Hdr]
      rfl
    · unfold aSrc
      simp only [Tryz.underlying22]
      rfl
  · unfold HdrsIn at hg
    refine ⟨.slice (some ⟨g, 0, none⟩) k L.length, ?_, fun M' hM => ?_⟩
    · unfold gSlice aBound
      simp only [Tryz.underlying22, inf_Hdr, sz_Hdr, hg]
      rw [if_pos ⟨by omega, by omega⟩]
      simp
    · have := hM g _ rfl hg
      unfold aSrc
      simp only [Tryz.underlying22, this]
      rw [if_pos (by rw [hdr_flat]; have := Nat.mul_le_mul_right 7 hk; omega), List.drop_zero, take_flat _ _ hk]
theorem hcut_back {K : Nat} {M : Mem} {V : Value} {L : List Header} (h : HdrsOwn K M V L) (k : Nat) (hk : k ≤ L.length) :
    ∃ x, gSlice Tryz.prog M.get 22 V (some (.int .i64 (k : Nat))) none = some x ∧ ∀ M', (∀ b y, blkAt V = some b → M.get b = some y → M'.get b = some y) → aSrc Tryz.prog M' 22 7 x = some (L.length - k, (L.drop k).flatMap Header.cells) := by
  rcases h with ⟨rfl, rfl⟩ | ⟨h0, g, hgk, rfl, hg⟩
  · have : k = 0 := by simpa using hk
    subst this
    refine ⟨.slice none 0 0, ?_, fun M' _ => ?_⟩
    · unfold gSlice aBound
      simp only [Tryz.underlying22, inf_Hdr]
      rfl
    · unfold aSrc
      simp only [Tryz.underlying22]
      rfl
  · unfold HdrsIn at hg
    refine ⟨.slice (some ⟨g, 0 + k * 7, none⟩) (L.length - k) (L.length - k), ?_, fun M' hM => ?_⟩
    · unfold gSlice aBound
      simp only [Tryz.underlying22, inf_Hdr, sz_Hdr, hg]
      rw [if_pos ⟨by omega, by omega⟩]
      simp
    · have := hM g _ rfl hg
      unfold aSrc
      simp only [Tryz.underlying22, this]
      rw [if_pos (by rw [hdr_flat, Nat.zero_add, ← Nat.add_mul]; have := Nat.mul_le_mul_right 7 (show k + (L.length - k) ≤ L.length by omega); omega), Nat.zero_add, drop_flat _ _ hk, List.take_of_length_le (by rw [hdr_flat, List.length_drop]; omega)]
theorem happL {k n : Nat} {M : Mem} {V x : Value} {A B : List Header} (h : HdrsOwn k M V A) (hk : k ≤ M.size) (hl : A.length + B.length ≤ 1000000) (hn : B.length = n) (hs : aSrc Tryz.prog M 22 7 x = some (n, B.flatMap Header.cells)) :
    ∃ M' V', aAppend Tryz.prog M 22 22 V x = some (V', M') ∧ (∀ b, blkAt V' = some b → blkAt V = some b ∨ M.size ≤ b) ∧ HdrsOwn k M' V' (A ++ B) ∧
      M.size ≤ M'.size ∧ (∀ b y, blkAt V ≠ some b → M.get b = some y → M'.get b = some y) := by
  have hu := Tryz.underlying22
  have hby := Hdr_bytes
  by_cases h0n : n = 0
  · subst h0n
    have hB : B = [] := List.length_eq_zero_iff.1 hn
    subst hB
    refine ⟨M, V, ?_, fun b hb => .inl hb, by rw [List.append_nil]; exact h, Nat.le_refl _, fun _ _ _ hy => hy⟩
    rcases h with ⟨rfl, rfl⟩ | ⟨_, g, _, rfl, _⟩
    · unfold aAppend
      simp only [hu, inf_Hdr, Hdr_zero, sz_Hdr, hs]
      rfl
    · unfold aAppend
      simp only [hu, inf_Hdr, Hdr_zero, sz_Hdr, hs]
      rfl
  · rcases h with ⟨rfl, rfl⟩ | ⟨h0, g, hgk, rfl, hg⟩
    · have ha := gapp_nil (P := Tryz.prog) (N := 7) (k := n) (news := B.flatMap Header.cells) hu inf_Hdr Hdr_zero sz_Hdr rfl M hs h0n (by have := Nat.mul_le_mul (show n ≤ 1000000 by simp only [List.length_nil] at hl; omega) hby; omega) (by simp only [List.length_nil] at hl; omega)
      refine ⟨_, _, ha, fun b hb => by cases hb; exact .inr (Nat.le_refl _), .inr ⟨by rw [List.nil_append]; intro e; apply h0n; rw [← hn, e]; rfl, M.size, hk, by rw [List.nil_append, hn], ?_⟩, by simp only [Mem.size_push]; omega, fun b y _ hy => ?_⟩
      · unfold HdrsIn
        rw [Mem.get_push_new, List.nil_append]
      · rw [Mem.get_push_old (get_live hy)]; exact hy
    · have hgl := get_live hg
      have ha := gapp (P := Tryz.prog) (N := 7) (k := n) (n := A.length) (cs := A.flatMap Header.cells) (news := B.flatMap Header.cells) hu inf_Hdr Hdr_zero sz_Hdr rfl M hs h0n
        hg (hdr_flat A) (by have := Nat.mul_le_mul (show A.length + n ≤ 1000000 by omega) hby; omega) (by omega)
      refine ⟨_, _, ha, fun b hb => by cases hb; exact .inr (Nat.le_refl _), .inr ⟨by simp [h0], M.size, hk, by rw [List.length_append, hn], ?_⟩, by simp only [Mem.size_push, Mem.size_set]; omega, fun b y hb hy => ?_⟩
      · have := Mem.get_push_new (M.set g none) (.cells false 7 (A.flatMap Header.cells ++ B.flatMap Header.cells))
        rw [Mem.size_set] at this
        unfold HdrsIn
        rw [this, List.flatMap_append]
      · have := get_live hy
        rw [Mem.get_push_old (by rw [Mem.size_set]; omega), Mem.get_set_ne (by intro e; apply hb; rw [e]; rfl)]; exact hy
end Go.Proofs.YtabffcplbjaklaaGreatDoor
namespace Go.Proofs.YtabffcplbjaklaaGreatDoor
open Go.RowKit Abs Stab
set_option maxRecDepth 100000 in
set_option maxHeartbeats 4000000 in
theorem rsort_spec (K : Nat) (M : Mem) (V : Value) (L : List Header) (h : HdrsOwn K M V L) (hl : L.length ≤ 1000) :
    Abs.Spec Tryz.prog 12 [V] M fun u M' => (∀ b x, b < M.size → M.get b = some x → M'.get b = some x) ∧ M.size ≤ M'.size ∧ ∃ R, Stable hid L R ∧ HdrsOwn M.size M' u R := by
  obtain ⟨a0, c0, hV⟩ := h.len
  subst hV
  refine Abs.Spec.walkM Tryz.func12 (by rfl) _ Tryz.results12 _ Tryz.ntmps12 (by simp) ?_
  intro hc hx k
  refine CW_seq (CW_region ?_)
  simp only [zZ, reduceIte, Nat.reduceLT, Int.reduceToNat, Int.reduceLE, Int.reduceEq, Int.reduceLT, Nat.reduceEqDiff, Nat.reduceAdd, zMn]
  refine CW_seq (CW_region ?_)
  simp only [zZ, reduceIte, Nat.reduceLT, Int.reduceToNat, Int.reduceLE, Int.reduceEq, Int.reduceLT, Nat.reduceEqDiff, Nat.reduceAdd, zMn]
  refine CW_seq (CW_seq (CW_region ?_))
  simp only [zZ, reduceIte, Nat.reduceLT, Int.reduceToNat, Int.reduceLE, Int.reduceEq, Int.reduceLT, Nat.reduceEqDiff, Nat.reduceAdd, zMn]
  have atL : ∀ (i : Nat) (x : Header), L[i]? = some x → ∃ g, a0 = some ⟨g, 0, none⟩ ∧ g < M.size ∧ HdrsIn M g L := by
    intro i x hx
    rcases h with ⟨h1, _⟩ | ⟨h1, g, _, h3, h4⟩
    · rw [h1] at hx; cases hx
    · cases h3; exact ⟨g, rfl, get_live h4, h4⟩
  refine CW_block (MW_loop (fun j f M' => ∃ (i : Nat) (R : List Header) (V3 : Value), j = L.length - i ∧ f = [(0, .slice a0 L.length c0), (3, V3), (4, .int .i64 (i : Nat))] ∧ i ≤ L.length ∧ Stable hid (L.take i) R ∧ HdrsOwn M.size M' V3 R ∧
    (∀ b x, b < M.size → M.get b = some x → M'.get b = some x) ∧ M.size ≤ M'.size) L.length ?_ ?_)
  · refine ⟨[0, 3, 4], ?_⟩
    simp only [zZ, reduceIte, Nat.reduceLT, Int.reduceToNat, Int.reduceLE, Int.reduceEq, Int.reduceLT, Nat.reduceEqDiff, Nat.reduceAdd, keepF]
    exact ⟨M, Thin.refl _, 0, [], _, rfl, rfl, by omega, by rw [List.take_zero]; exact Stable.refl hid List.Pairwise.nil, .inl ⟨rfl, rfl⟩, fun _ _ _ h => h, Nat.le_refl _⟩
  · rintro j f M' ⟨i, R, V3, rfl, rfl, hi, hst, hown, hold, hsz⟩
    refine CW_seq (CW_seq (CW_region ?_))
    simp only [zZ, reduceIte, Nat.reduceLT, Int.reduceToNat, Int.reduceLE, Int.reduceEq, Int.reduceLT, Nat.reduceEqDiff, Nat.reduceAdd, zMn]
    have hRl : R.length = i := by rw [hst.len, List.length_take]; omega
    refine CW_cond (decide ((i : Int) < (L.length : Int))) (by rfl) (fun h => CW_skip ?_) (fun h => CW_exit ?_)
    · have hiL := of_decide_eq_true h
      obtain ⟨x, hX⟩ : ∃ x, L[i]? = some x := ⟨_, List.getElem?_eq_getElem (by omega)⟩
      obtain ⟨g, rfl, hgl, hg0⟩ := atL i x hX
      have hg := hold g _ hgl hg0
      have z0 : (0 : Int) ≤ (i : Int) := by omega
      have cx := hdr_cell hX (o := 0) (by decide) false 7 (.int .i64 x.id) rfl rfl
      rw [Nat.add_zero] at cx
      obtain ⟨a3, c3, hV3⟩ := hown.len
      simp only [zZ, reduceIte, Nat.reduceLT, Int.reduceToNat, Int.reduceLE, Int.reduceEq, Int.reduceLT, Nat.reduceEqDiff, Nat.reduceAdd]
      refine CW_seq (CW_block (CW_seq (CW_region ?_)))
      subst hV3
      simp only [zZ, reduceIte, Nat.reduceLT, Int.reduceToNat, Int.reduceLE, Int.reduceEq, Int.reduceLT, Nat.reduceEqDiff, Nat.reduceAdd, zMn]
      refine MW_mid (fun f M2 => ∃ k : Nat, f = [(0, .slice (some ⟨g, 0, none⟩) L.length c0), (3, .slice a3 R.length c3), (4, .int .i64 (i : Nat)), (5, .int .i64 (k : Nat))] ∧ M2 = M' ∧ k ≤ R.length ∧ (∀ y ∈ R.take k, y.id ≤ x.id) ∧ ∀ y ∈ R.drop k, x.id < y.id) ?_ ?_
      · refine CW_block (MW_loop (fun j f M2 => f = [(0, .slice (some ⟨g, 0, none⟩) L.length c0), (3, .slice a3 R.length c3), (4, .int .i64 (i : Nat)), (5, .int .i64 (j : Nat))] ∧ M2 = M' ∧ j ≤ R.length ∧ ∀ y ∈ R.drop j, x.id < y.id) R.length ?_ ?_)
        · refine ⟨[0, 3, 4, 5], ?_⟩
          simp only [zZ, reduceIte, Nat.reduceLT, Int.reduceToNat, Int.reduceLE, Int.reduceEq, Int.reduceLT, Nat.reduceEqDiff, Nat.reduceAdd, keepF]
          exact ⟨M', Thin.refl _, rfl, Nat.le_refl _, by simp⟩
        · rintro j f M2 ⟨rfl, e9, hj, hdr⟩
          replace e9 := e9.symm; subst e9
          refine CW_seq (CW_seq (CW_draw hmix 14 (by kernel_rfl) (by kernel_rfl) ?_))
          by_cases hj0 : j = 0
          · have q1 : decide ((j : Int) > 0) = false := decide_eq_false (by omega)
            simp only [zZ, reduceIte, Nat.reduceLT, Int.reduceToNat, Int.reduceLE, Int.reduceEq, Int.reduceLT, Nat.reduceEqDiff, Nat.reduceAdd, zMn, q1]
            refine CW_cond false (by rfl) (fun h => by cases h) (fun _ => CW_exit ?_)
            refine ⟨[0, 3, 4, 5], ?_⟩
            simp only [zZ, reduceIte, Nat.reduceLT, Int.reduceToNat, Int.reduceLE, Int.reduceEq, Int.reduceLT, Nat.reduceEqDiff, Nat.reduceAdd, keepF]
            exact ⟨M', Thin.refl _, j, rfl, rfl, hj, by rw [hj0]; simp, hdr⟩
          · have q1 : decide ((j : Int) > 0) = true := decide_eq_true (by omega)
            obtain ⟨y, hY⟩ : ∃ y, R[j - 1]? = some y := ⟨_, List.getElem?_eq_getElem (by omega)⟩
            obtain ⟨g3, rfl, hg3⟩ : ∃ g3, a3 = some ⟨g3, 0, none⟩ ∧ HdrsIn M' g3 R := by
              rcases hown with ⟨h1, _⟩ | ⟨h1, g, _, h3, h4⟩
              · rw [h1] at hY; cases hY
              · cases h3; exact ⟨g, rfl, h4⟩
            have cy := hdr_cell hY (o := 0) (by decide) false 7 (.int .i64 y.id) rfl rfl
            rw [Nat.add_zero] at cy
            have w1 : IntKind.i64.wrap ((j : Int) - 1) = ((j - 1 : Nat) : Int) := by rw [wri (by omega) (by omega)]; omega
            have z1 : (0 : Int) ≤ ((j - 1 : Nat) : Int) := by omega
            have z2 : ((j - 1 : Nat) : Int) < (R.length : Int) := by omega
            unfold HdrsIn at hg3 hg
            cases qd : decide (y.id > x.id)
            · simp only [zZ, reduceIte, Nat.reduceLT, Int.reduceToNat, Int.reduceLE, Int.reduceEq, Int.reduceLT, Nat.reduceEqDiff, Nat.reduceAdd, zMn, q1, w1, z0, hiL, z1, z2, and_self, hg3, hg, cy, cx, qd]
              refine CW_cond false (by rfl) (fun h => by cases h) (fun _ => CW_exit ?_)
              refine ⟨[0, 3, 4, 5], ?_⟩
              simp only [zZ, reduceIte, Nat.reduceLT, Int.reduceToNat, Int.reduceLE, Int.reduceEq, Int.reduceLT, Nat.reduceEqDiff, Nat.reduceAdd, keepF]
              refine ⟨M', Thin.refl _, j, rfl, rfl, hj, fun w hw => ?_, hdr⟩
              have hle := of_decide_eq_false qd
              have hri := hst.rising
              have e1 : R.take j = R.take (j - 1) ++ [y] := by
                have := List.take_add_one (l := R) (i := j - 1)
                rw [show j - 1 + 1 = j by omega, hY] at this
                exact this
              rw [e1] at hw
              rcases List.mem_append.1 hw with hw | hw
              · have e2 : R = R.take (j - 1) ++ ([y] ++ R.drop j) := by
                  rw [← List.append_assoc, ← e1, List.take_append_drop]
                rw [e2] at hri
                obtain ⟨_, _, hc3⟩ := Rising.parts hid hri
                have := hc3 w hw y (by simp)
                unfold hid at this
                omega
              · simp only [List.mem_singleton] at hw
                subst hw; omega
            · simp only [zZ, reduceIte, Nat.reduceLT, Int.reduceToNat, Int.reduceLE, Int.reduceEq, Int.reduceLT, Nat.reduceEqDiff, Nat.reduceAdd, zMn, q1, w1, z0, hiL, z1, z2, and_self, hg3, hg, cy, cx, qd]
              refine CW_cond true (by rfl) (fun _ => CW_skip ?_) (fun h => by cases h)
              simp only [zZ, reduceIte, Nat.reduceLT, Int.reduceToNat, Int.reduceLE, Int.reduceEq, Int.reduceLT, Nat.reduceEqDiff, Nat.reduceAdd]
              refine CW_block (CW_region ?_)
              simp only [zZ, reduceIte, Nat.reduceLT, Int.reduceToNat, Int.reduceLE, Int.reduceEq, Int.reduceLT, Nat.reduceEqDiff, Nat.reduceAdd, zMn, w1]
              refine ⟨[0, 3, 4, 5], ?_⟩
              simp only [zZ, reduceIte, Nat.reduceLT, Int.reduceToNat, Int.reduceLE, Int.reduceEq, Int.reduceLT, Nat.reduceEqDiff, Nat.reduceAdd, keepF]
              refine ⟨M', Thin.refl _, j - 1, ⟨rfl, rfl, by omega, fun w hw => ?_⟩, by omega⟩
              have hgt := of_decide_eq_true qd
              have e1 : R.drop (j - 1) = y :: R.drop j := by
                obtain ⟨h1, rfl⟩ := List.getElem?_eq_some_iff.1 hY
                rw [List.drop_eq_getElem_cons h1, show j - 1 + 1 = j by omega]
              rw [e1] at hw
              rcases List.mem_cons.1 hw with rfl | hw
              · omega
              · exact hdr w hw
      · rintro _ M2 ⟨k, rfl, e9, hk, hlo, hhi⟩
        replace e9 := e9.symm; subst e9
        obtain ⟨x1, gs1, so1⟩ := hcut_front hown k hk
        have nil1 : HdrsOwn M.size M' (.slice none 0 0) [] := .inl ⟨rfl, rfl⟩
        obtain ⟨M2, V6, ap1, bl1, own1, hs1, old1⟩ := happL nil1 hsz (by rw [List.length_take]; simp; omega) (by rw [List.length_take]; omega) (so1 M' fun _ _ _ h => h)
        have keep2 : ∀ b y, M'.get b = some y → M2.get b = some y := fun b y hy => old1 b y (by simp [blkAt]) hy
        have hown2 := hown.same (M' := M2) fun b y _ hy => keep2 b y hy
        have rx := rowIn_at (n := 7) (f := Header.cells) (fun a _ => hdr_len a) hX false 7
        obtain ⟨M3, V7, ap2, hb2, own2, hs2, old2⟩ := happ own1 (by omega) (by rw [List.length_append, List.length_take]; simp; omega) x
        have ne2 : ∀ b, blkAt V6 = some b → M'.size ≤ b := fun b hb => by
          rcases bl1 b hb with hb | hb
          · cases hb
          · exact hb
        have keep3 : ∀ b y, b < M'.size → M'.get b = some y → M3.get b = some y := fun b y hb hy => old2 b y (fun e => by have := ne2 b e; omega) (keep2 b y hy)
        have hown3 := hown.same (M' := M3) fun b y hb hy => keep3 b y (hown.live hb).2 hy
        obtain ⟨x3, gs3, so3⟩ := hcut_back hown3 k hk
        obtain ⟨M4, V8, ap3, bl3, own4, hs4, old4⟩ := happL own2 (by omega) (by rw [List.length_append, List.length_append, List.length_take, List.length_drop]; simp; omega) (by rw [List.length_drop]) (so3 M3 fun _ _ _ h => h)
        have nw := new_hdr1 x
        have hg2 := keep2 g _ hg
        unfold HdrsIn at hg2
        refine CW_seq (CW_region ?_)
        simp only [zZ, reduceIte, Nat.reduceLT, Int.reduceToNat, Int.reduceLE, Int.reduceEq, Int.reduceLT, Nat.reduceEqDiff, Nat.reduceAdd, zMn]
        refine CW_seq (CW_region ?_)
        simp only [zZ, reduceIte, Nat.reduceLT, Int.reduceToNat, Int.reduceLE, Int.reduceEq, Int.reduceLT, Nat.reduceEqDiff, Nat.reduceAdd, zMn, gs1, ap1]
        refine CW_seq (CW_region ?_)
        simp only [zZ, reduceIte, Nat.reduceLT, Int.reduceToNat, Int.reduceLE, Int.reduceEq, Int.reduceLT, Nat.reduceEqDiff, Nat.reduceAdd, zMn, z0, hiL, and_self, hg2, rx, nw, ap2]
        refine CW_seq (CW_region ?_)
        simp only [zZ, reduceIte, Nat.reduceLT, Int.reduceToNat, Int.reduceLE, Int.reduceEq, Int.reduceLT, Nat.reduceEqDiff, Nat.reduceAdd, zMn, gs3, ap3]
        refine CW_region ?_
        simp only [zZ, reduceIte, Nat.reduceLT, Int.reduceToNat, Int.reduceLE, Int.reduceEq, Int.reduceLT, Nat.reduceEqDiff, Nat.reduceAdd, zMn]
        refine CW_region ?_
        have w9 : IntKind.i64.wrap ((i : Int) + 1) = ((i + 1 : Nat) : Int) := by rw [wri (by omega) (by omega)]; omega
        simp only [zZ, reduceIte, Nat.reduceLT, Int.reduceToNat, Int.reduceLE, Int.reduceEq, Int.reduceLT, Nat.reduceEqDiff, Nat.reduceAdd, zMn, w9]
        refine ⟨[0, 3, 4], ?_⟩
        simp only [zZ, reduceIte, Nat.reduceLT, Int.reduceToNat, Int.reduceLE, Int.reduceEq, Int.reduceLT, Nat.reduceEqDiff, Nat.reduceAdd, keepF]
        have keep4 : ∀ b y, b < M'.size → M'.get b = some y → M4.get b = some y := fun b y hb hy => old4 b y (fun e => by rw [hb2] at e; cases e; omega) (keep3 b y hb hy)
        refine ⟨M4, Thin.refl _, L.length - (i + 1), ⟨i + 1, R.take k ++ [x] ++ R.drop k, V8, rfl, rfl, by omega, ?_, ?_, fun b y hb hy => keep4 b y (by omega) (hold b y hb hy), by omega⟩, by omega⟩
        · rw [List.take_add_one, hX]
          have hx1 : Stable hid [x] [x] := Stable.refl hid (List.pairwise_singleton _ _)
          refine Stable.app hid hst hx1 ?_
          have := insert_right hid (y := x) (x1 := R.take k) (x2 := R.drop k) (by rw [List.take_append_drop]; exact hst.rising) hlo hhi
          rw [List.take_append_drop] at this
          simpa using this
        · simpa using own4
    · have h := of_decide_eq_false h
      simp only [zZ, reduceIte, Nat.reduceLT, Int.reduceToNat, Int.reduceLE, Int.reduceEq, Int.reduceLT, Nat.reduceEqDiff, Nat.reduceAdd]
      refine CW_seq (CW_region ?_)
      simp only [zZ, reduceIte, Nat.reduceLT, Int.reduceToNat, Int.reduceLE, Int.reduceEq, Int.reduceLT, Nat.reduceEqDiff, Nat.reduceAdd, zMn]
      refine CW_ret ?_
      simp only [zZ, reduceIte, Nat.reduceLT, Int.reduceToNat, Int.reduceLE, Int.reduceEq, Int.reduceLT, Nat.reduceEqDiff, Nat.reduceAdd, zMn, mEnd, sAnswer, sAnswer.sRes]
      rw [List.take_of_length_le (by omega)] at hst
      exact ⟨M', Thin.refl _, hold, hsz, R, hst, hown⟩
end Go.Proofs.YtabffcplbjaklaaGreatDoor
namespace Go.Proofs.YtabffcplbjaklaaGreatDoor
open Go.RowKit Abs
end Go.Proofs.YtabffcplbjaklaaGreatDoor
namespace Go.Proofs.YtabffcplbjaklaaGreatDoor
open Go.RowKit
def ownsB (w : World) (base : Nat) (e : TypeId) (v : Value) (n : Nat) (xs : List Value) : Prop :=
  w.ownsRow base e 1 v n xs ∨
  (xs.length = n ∧ ∃ g cap cur fz, v = .slice (some ⟨g, 0, none⟩) n cap ∧ base ≤ g ∧ w.heap[g]? = some (.cells cur e fz) ∧ cur.size ≤ fz.1 ∧ n ≤ cap ∧ cap ≤ maxLen ∧ cur.size = cap ∧ cur.toList.take n = xs)
theorem ownsB.length {w : World} {base e n : Nat} {v : Value} {xs : List Value} (h : ownsB w base e v n xs) : xs.length = n := by
  rcases h with h | h
  · have := h.1; omega
  · exact h.1
theorem ownsB.le {w : World} {base e n : Nat} {v : Value} {xs : List Value} (h : ownsB w base e v n xs) : n ≤ maxLen := by
  rcases h with h | ⟨_, g, cap, cur, fz, _, _, _, _, h1, h2, _⟩
  · rcases h.2 with ⟨_, rfl⟩ | ⟨g, cap, cur, _, _, _, h1, h2, _⟩
    · exact Nat.zero_le _
    · omega
  · omega
section
variable {P : Program}
end
theorem ownsB.lt {w : World} {base e n : Nat} {v : Value} {xs : List Value} (h : ownsB w base e v n xs) : ∀ k, v.ownBlock = some k → base ≤ k ∧ k < w.heap.size := by
  rcases h with h | ⟨_, g, cap, cur, fz, rfl, hb, hg, _⟩
  · exact h.lt
  · intro k hk
    simp [Value.ownBlock] at hk
    subst hk
    exact ⟨hb, lt_of_heap hg⟩
theorem ownsB.slice {w : World} {base e n : Nat} {v : Value} {xs : List Value} (h : ownsB w base e v n xs) : ∃ a cap, v = .slice a n cap ∧ n ≤ cap := by
  rcases h with h | ⟨_, g, cap, cur, fz, rfl, _, _, _, h1, _⟩
  · rcases h.2 with ⟨rfl, rfl⟩ | ⟨g, cap, cur, rfl, _, _, h1, _⟩
    · exact ⟨none, 0, rfl, Nat.le_refl _⟩
    · exact ⟨_, cap, rfl, h1⟩
  · exact ⟨_, cap, rfl, h1⟩
theorem ownsB.reads {α : Type} (c : α → Value) {w : World} {base e n : Nat} {v : Value} {l : List α} (h : ownsB w base e v n (l.map c)) : SliceOf (Shape.flat 1 (fun x => [c x]) (fun _ => rfl)) w v l := by
  have hn : n = l.length := by have := h.length; simp at this; omega
  rcases h with h | ⟨h0, g, cap, cur, fz, rfl, hb, hg, _, h1, h2, h3, h4⟩
  · exact elems_of_owned c h
  · subst hn
    refine ⟨_, cap, rfl, .inr ⟨g, 0, rfl, lt_of_heap hg, h1, h2, fun i x hx => ⟨[c x], rfl, fun j u hj => ?_⟩⟩⟩
    cases j with
    | zero =>
      simp at hj
      subst hj
      have h5 : (l.map c)[i]? = some (c x) := by simp [hx]
      rw [← h4, List.getElem?_take] at h5
      split at h5
      · rw [cell_of hg, ← Array.getElem?_toList]
        simpa [Shape.flat] using h5
      · cases h5
    | succ j => simp at hj
end Go.Proofs.YtabffcplbjaklaaGreatDoor
namespace Go.Proofs.YtabffcplbjaklaaGreatDoor
open Go.RowKit
end Go.Proofs.YtabffcplbjaklaaGreatDoor
