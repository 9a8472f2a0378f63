/-
  Texts of words: cut, and joined; numbers have neither blanks nor ends of lines.
  A line of a manifest, as words; numbers and digits, read.
  The library's contract for what stands ahead of a text, for the abstract machine.
  A manifest's text, as lines.
  The library's ParseUint, of two digits to the base 16: walked.
  The walk of manifest.unhex, over digits that were written.
  The walk of manifest.read, over a line that was written.
  strings.Builder: its contracts in an abstract memory. (A builder's variable and its buffer are marked: their types are told.)
  A builder's text, asked twice.
  The walks of sha: the schedule.
  The walks of sha: the number of a round.
  The walks of sha: one block.
  A region that draws its order, whose operations but the last ones read old memory or call functions that make memory of their own; the last ones, in one forced order, do whatever they do.
  After the library's two elder forms: the walk over one world with a tail, and the walk over a class of worlds without one.
  The walks of sha: a text that is summed part by part.
-/
import Derived.Lib.SplitLaws
import Derived.Lib.IndexBytes
import Derived.Lib.Strings
import Derived.Test.YtabffcplbjaklaaGreatDoorPart08
import Derived.Lib.AtoiAllCases
import Derived.Lib.ItoaMem
import Derived.Lib.Join
import Derived.Lib.SmallJoins
import Derived.Lib.AtoiTie
import Derived.Lib.AtoiErrMem
import Derived.Test.YtabffcplbjaklaaGreatDoorPart06
import Derived.Test.YtabffcplbjaklaaGreatDoorPart07
import Derived.Lib.Builder
import Derived.Lib.UnsafeStr
import Derived.WalkKit
import Derived.Test.YtabffcplbjaklaaGreatDoorPart03
import Derived.Test.YtabffcplbjaklaaGreatDoorPart01
import Derived.Deep.QuietTactic
import Derived.BigQuiet
import Derived.StillTailTactics
import Derived.Laws.EntriesVeiled
import Derived.WalkLawsBesides
import Derived.Outline
import Derived.Lib.AppendStr
import Derived.Deep.LoopGhost
set_option linter.unusedSimpArgs false
set_option linter.unusedVariables false
set_option linter.unusedSectionVars false
set_option linter.unnecessarySimpa false
set_option linter.defProp false
namespace Go.Proofs.YtabffcplbjaklaaGreatDoor
open Go
def pieces (c : UInt8) : List UInt8 → List UInt8 → List (List UInt8)
  | [], cur => [cur]
  | b :: r, cur => if b = c then cur :: pieces c r [] else pieces c r (cur ++ [b])
theorem index_miss (l : List UInt8) (c : UInt8) : Lib.indexByte l c = -1 ∨ ∃ a b, l = a ++ c :: b ∧ c ∉ a ∧ Lib.indexByte l c = a.length := by
  induction l with
  | nil => exact .inl rfl
  | cons x r ih =>
    unfold Lib.indexByte
    by_cases hx : x = c
    · subst hx
      exact .inr ⟨[], r, rfl, by simp, by simp⟩
    · have hb : (x == c) = false := by simpa using hx
      rw [hb]
      simp only [Bool.false_eq_true, if_false]
      rcases ih with h | ⟨a, b, h1, h2, h3⟩
      · rw [h]; exact .inl rfl
      · refine .inr ⟨x :: a, b, by rw [h1]; rfl, by simp [h2, Ne.symm hx], ?_⟩
        have : (Lib.indexByte r c == -1) = false := by rw [h3]; simp
        rw [this, h3]
        simp
theorem index_not (l : List UInt8) (c : UInt8) (h : Lib.indexByte l c = -1) : c ∉ l := by
  induction l with
  | nil => simp
  | cons x r ih =>
    unfold Lib.indexByte at h
    by_cases hx : x = c
    · subst hx; simp at h
    · have hb : (x == c) = false := by simpa using hx
      rw [hb] at h
      simp only [Bool.false_eq_true, if_false] at h
      have hr : Lib.indexByte r c = -1 := by
        split at h
        · rename_i h'; simpa using h'
        · have := Lib.indexByte_ge r c; omega
      simp [ih hr, Ne.symm hx]
theorem pieces_not (c : UInt8) : ∀ (l cur : List UInt8), c ∉ l → pieces c l cur = [cur ++ l]
  | [], cur, _ => by simp [pieces]
  | b :: r, cur, h => by
    simp only [List.mem_cons, not_or] at h
    rw [pieces, if_neg (Ne.symm h.1), pieces_not c r _ h.2]; simp
theorem pieces_at (c : UInt8) : ∀ (a b cur : List UInt8), c ∉ a → pieces c (a ++ c :: b) cur = (cur ++ a) :: pieces c b []
  | [], b, cur, _ => by simp [pieces]
  | x :: r, b, cur, h => by
    simp only [List.mem_cons, not_or] at h
    rw [List.cons_append, pieces, if_neg (Ne.symm h.1), pieces_at c r b _ h.2]; simp
theorem splitK_eq (c : UInt8) : ∀ (k : Nat) (l : List UInt8), l.count c = k → Lib.splitK [c] 0 k l = pieces c l []
  | k, l, hk => by
    rcases index_miss l c with h | ⟨a, b, h1, h2, h3⟩
    · have hn := index_not l c h
      have : k = 0 := by rw [← hk]; exact List.count_eq_zero.2 hn
      subst this
      rw [pieces_not c l _ hn]; rfl
    · have hc : l.count c = b.count c + 1 := by rw [h1, List.count_append, List.count_cons_self, List.count_eq_zero.2 h2]; omega
      obtain ⟨j, rfl⟩ : ∃ j, k = j + 1 := ⟨k - 1, by omega⟩
      rw [Lib.splitK, Lib.index_one, h3, if_neg (by simp), h1, pieces_at c a b _ h2]
      have e1 : (a ++ c :: b).take (((a.length : Nat) : Int).toNat + 0) = [] ++ a := by simp
      have e2 : (a ++ c :: b).drop (((a.length : Nat) : Int).toNat + [c].length) = b := by simp
      rw [e1, e2, splitK_eq c j b (by omega)]
termination_by k => k
theorem split_eq (s : ByteArray) (c : UInt8) : (Lib.splitB ⟨#[c]⟩ 0 (Lib.countB s ⟨#[c]⟩) s).map (·.data.toList) = pieces c s.data.toList [] := by
  rw [Lib.splitB_data]
  refine splitK_eq c _ _ ?_
  exact (Lib.count_one c s.data.toList).symm
theorem suffix_iff (l : List UInt8) (c : UInt8) : Lib.hasSuffix l [c] = true ↔ ∃ r, l = r ++ [c] := by
  unfold Lib.hasSuffix
  rw [List.isSuffixOf_iff_suffix]
  exact ⟨fun ⟨r, h⟩ => ⟨r, h.symm⟩, fun ⟨r, h⟩ => ⟨r, h.symm⟩⟩
theorem trim_eq (r : List UInt8) (c : UInt8) : Lib.trimSuffix (r ++ [c]) [c] = r := by
  unfold Lib.trimSuffix
  rw [if_pos ((suffix_iff _ _).2 ⟨r, rfl⟩)]
  simp
end Go.Proofs.YtabffcplbjaklaaGreatDoor
namespace Go.Proofs.YtabffcplbjaklaaGreatDoor
open Go
theorem parse_app (l : List UInt8) : ∀ (k : List UInt8) (acc u : Nat), Lib.parseUint10 acc l = .ok u → Lib.parseUint10 acc (l ++ k) = Lib.parseUint10 u k := by
  induction l with
  | nil => intro k acc u h; simp only [Lib.parseUint10] at h; injection h with h; subst h; rfl
  | cons c r ih =>
    intro k acc u h
    simp only [Lib.parseUint10, List.cons_append] at h ⊢
    split at h
    · rename_i h1
      rw [if_pos h1]
      split at h
      · cases h
      · rename_i h2
        rw [if_neg h2]
        split at h
        · cases h
        · rename_i h3
          rw [if_neg h3]
          exact ih k _ u h
    · cases h
theorem parse_dec (u : Nat) : u < 18446744073709551616 → Lib.parseUint10 0 (Lib.decDigits u) = .ok u := by
  induction u using Nat.strongRecOn with
  | _ u ih =>
    intro hu
    by_cases h : u < 10
    · rw [Lib.decDigits_one h]
      simp only [Lib.parseUint10, dig_nat h]
      rw [if_pos (by omega), if_neg (by omega), if_neg (by omega)]
      congr 1; omega
    · rw [Lib.decDigits, dif_neg h, parse_app _ _ _ _ (ih (u / 10) (by omega) (by omega))]
      simp only [Lib.parseUint10, dig_nat (Nat.mod_lt u (by decide : 10 > 0))]
      rw [if_pos (by omega), if_neg (by omega), if_neg (by omega)]
      congr 1; omega
theorem dec_ne (u : Nat) : Lib.decDigits u ≠ [] := by
  rw [Lib.decDigits]; split <;> simp
theorem dec_head (u : Nat) : ∃ (d : Nat) (r : List UInt8), d < 10 ∧ Lib.decDigits u = UInt8.ofNat (48 + d) :: r ∧ (u ≠ 0 → d ≠ 0) ∧ (u < 10 → r = []) := by
  induction u using Nat.strongRecOn with
  | _ u ih =>
    by_cases h : u < 10
    · exact ⟨u, [], h, by rw [Lib.decDigits_one h], fun h => h, fun _ => rfl⟩
    · obtain ⟨d, r, h1, h2, h3, _⟩ := ih (u / 10) (by omega)
      exact ⟨d, r ++ [UInt8.ofNat (48 + u % 10)], h1, by rw [Lib.decDigits, dif_neg h, h2]; rfl, fun _ => h3 (by omega), fun h' => absurd h' h⟩
theorem mag_dec {u : Nat} (h : u < 18446744073709551616) : Lib.parseMag (Lib.decDigits u) = .ok u := by
  unfold Lib.parseMag
  rw [if_neg (dec_ne u), parse_dec u h]
theorem atoi_itoa (v : Int) (h0 : -9223372036854775808 ≤ v) (h1 : v ≤ 9223372036854775807) : Lib.atoiAll (Lib.itoa v) = .ok v := by
  unfold Lib.itoa
  split
  · rename_i h
    rw [Lib.atoiAll_minus, mag_dec (by omega)]
    simp only [Lib.signed]
    rw [if_neg (by omega)]
    congr 1; omega
  · rename_i h
    obtain ⟨d, r, h2, h3, _, _⟩ := dec_head v.toNat
    have hm := mag_dec (u := v.toNat) (by omega)
    rw [h3] at hm ⊢
    rw [Lib.atoiAll_plain _ _ (by rw [dig_nat h2]; omega) (by rw [dig_nat h2]; omega), hm]
    simp only [Lib.signless]
    rw [if_neg (by omega)]
    congr 1; omega
end Go.Proofs.YtabffcplbjaklaaGreatDoor
namespace Go.Proofs.YtabffcplbjaklaaGreatDoor
open Go.RowKit Abs
theorem join_cons2 (a b : List UInt8) (r : List (List UInt8)) (sep : List UInt8) : Lib.join (a :: b :: r) sep = a ++ sep ++ Lib.join (b :: r) sep := by
  simp [Lib.join, List.intercalate, List.intersperse, List.append_assoc]
theorem join_one (a : List UInt8) (sep : List UInt8) : Lib.join [a] sep = a := Lib.join_one a sep
theorem pieces_join (c : UInt8) : ∀ (ws : List (List UInt8)), ws ≠ [] → (∀ w ∈ ws, c ∉ w) → pieces c (Lib.join ws [c]) [] = ws
  | [], h, _ => absurd rfl h
  | [w], _, h => by rw [join_one, pieces_not c w [] (h w (by simp))]; rfl
  | w :: v :: r, _, h => by
    rw [join_cons2, List.append_assoc]
    have := pieces_at c w (Lib.join (v :: r) [c]) [] (h w (by simp))
    rw [show [c] ++ Lib.join (v :: r) [c] = c :: Lib.join (v :: r) [c] from rfl, this, pieces_join c (v :: r) (by simp) (fun x hx => h x (by simp [hx]))]
    rfl
theorem dec_digits : ∀ (u : Nat), ∀ b ∈ Lib.decDigits u, 48 ≤ b.toNat ∧ b.toNat ≤ 57 := by
  intro u
  induction u using Nat.strongRecOn with
  | _ u ih =>
    intro b hb
    by_cases h : u < 10
    · rw [Lib.decDigits_one h, List.mem_singleton] at hb
      subst hb
      rw [dig_nat h]; omega
    · rw [Lib.decDigits, dif_neg h] at hb
      rcases List.mem_append.1 hb with hb | hb
      · exact ih (u / 10) (by omega) b hb
      · rw [List.mem_singleton] at hb
        subst hb
        rw [dig_nat (Nat.mod_lt u (by decide : 10 > 0))]; omega
theorem itoa_free (v : Int) (c : UInt8) (hc : c = 10 ∨ c = 32) : c ∉ Lib.itoa v := by
  intro h
  have hd : ∀ u, c ∉ Lib.decDigits u := fun u hu => by
    have := dec_digits u c hu
    rcases hc with rfl | rfl <;> revert this <;> decide
  unfold Lib.itoa at h
  split at h
  · rcases List.mem_cons.1 h with h | h
    · rcases hc with rfl | rfl <;> exact absurd h (by decide)
    · exact hd _ h
  · exact hd _ h
end Go.Proofs.YtabffcplbjaklaaGreatDoor
namespace Go.Proofs.YtabffcplbjaklaaGreatDoor
open Go.RowKit Abs
theorem digit_free : ∀ d : Fin 16, digit d.val ≠ 10 ∧ digit d.val ≠ 32 := by decide
theorem hexL_free (l : List UInt8) (c : UInt8) (hc : c = 10 ∨ c = 32) : c ∉ hexL l := by
  intro h
  unfold hexL at h
  rw [List.mem_flatMap] at h
  obtain ⟨b, _, hb⟩ := h
  have h1 := digit_free ⟨b.toNat / 16, by have := b.toNat_lt; omega⟩
  have h2 := digit_free ⟨b.toNat % 16, by omega⟩
  simp only [List.mem_cons, List.not_mem_nil, or_false] at hb
  rcases hb with rfl | rfl
  · rcases hc with e | e
    · exact h1.1 e
    · exact h1.2 e
  · rcases hc with e | e
    · exact h2.1 e
    · exact h2.2 e
theorem hexV_free (l : List UInt8) (c : UInt8) (hc : c = 10 ∨ c = 32) : c ∉ hexV l := by
  unfold hexV
  split
  · rcases hc with rfl | rfl <;> decide
  · exact hexL_free l c hc
theorem words_free (h : Header) (c : UInt8) (hc : c = 10 ∨ c = 32) : ∀ w ∈ lineWords h, c ∉ w := by
  intro w hw
  unfold lineWords at hw
  simp only [List.mem_cons, List.not_mem_nil, or_false] at hw
  rcases hw with rfl | rfl | rfl | rfl | rfl | rfl | rfl
  · exact itoa_free _ _ hc
  · exact itoa_free _ _ hc
  · exact itoa_free _ _ hc
  · exact itoa_free _ _ hc
  · exact hexV_free _ _ hc
  · exact hexV_free _ _ hc
  · exact hexV_free _ _ hc
theorem mem_join (c : UInt8) (sep : List UInt8) : ∀ (ws : List (List UInt8)), c ∈ Lib.join ws sep → (∃ w ∈ ws, c ∈ w) ∨ c ∈ sep
  | [], h => by simp [Lib.join] at h
  | [w], h => by rw [join_one] at h; exact .inl ⟨w, by simp, h⟩
  | w :: v :: r, h => by
    rw [join_cons2] at h
    rcases List.mem_append.1 h with h | h
    · rcases List.mem_append.1 h with h | h
      · exact .inl ⟨w, by simp, h⟩
      · exact .inr h
    · rcases mem_join c sep (v :: r) h with ⟨x, hx, hc⟩ | h
      · exact .inl ⟨x, by simp [hx], hc⟩
      · exact .inr h
theorem line_free (h : Header) : 10 ∉ lineV h := by
  intro hm
  unfold lineV at hm
  rcases mem_join _ _ _ hm with ⟨w, hw, hc⟩ | hc
  · exact words_free h 10 (.inl rfl) w hw hc
  · revert hc; decide
theorem itoa_short (v : Int) (h0 : 0 ≤ v) (h1 : v ≤ 9999999999) : (Lib.itoa v).length ≤ 18 := by
  unfold Lib.itoa
  rw [if_neg (by omega)]
  rcases pow_digits v.toNat with h | h
  · apply Decidable.byContradiction
    intro h2
    have h3 : 10 ^ 18 ≤ 10 ^ ((Lib.decDigits v.toNat).length - 1) := Nat.pow_le_pow_right (by decide) (by omega)
    have : (10 : Nat) ^ 18 = 1000000000000000000 := by decide
    omega
  · rw [h]; decide +kernel
theorem atoi_back (v : Int) (h0 : 0 ≤ v) (h1 : v ≤ 9999999999) : Lib.atoi (Lib.itoa v) = some v := by
  have h := atoi_itoa v (by omega) (by omega)
  rw [Lib.atoiAll_short _ (itoa_short v h0 h1)] at h
  cases hh : Lib.atoi (Lib.itoa v) with
  | none => rw [hh] at h; cases h
  | some x => rw [hh] at h; cases h; rfl
theorem matoi_spec (v : Int) (h0 : 0 ≤ v) (h1 : v ≤ 9999999999) (m : Mem) : Abs.Spec Tryz.prog 61 [.string (str (Lib.itoa v))] m fun u M => u = .tuple #[.int .i64 v, .nilIface] ∧ M = m :=
  Abs.Spec.of_flat (by simp [flat]) rfl fun w => by
    refine (Tryz.strconv_Atoi (str (Lib.itoa v)) v (by show (Lib.itoa v).length ≤ 18; exact itoa_short v h0 h1) (atoi_back v h0 h1) w).mono ?_
    rintro e w' ⟨rfl, t, rfl⟩
    exact ⟨rfl, Lib.bytesWorld_below _ _ _⟩
def wC (ws : List (List UInt8)) : List Value := ws.map fun p => .string (str p)
theorem msplit_spec (ws : List (List UInt8)) (c : UInt8) (h0 : ws ≠ []) (hf : ∀ w ∈ ws, c ∉ w) (hl : (Lib.join ws [c]).length ≤ 100000000) (m : Mem) :
    Abs.Spec Tryz.prog 27 [.string (str (Lib.join ws [c])), .string (str [c])] m fun u M => u = .slice (some ⟨m.size, 0, none⟩) ws.length ws.length ∧ M = ext m [some (some (.cells false 1 (wC ws)))] := by
  have h := split_spec (str (Lib.join ws [c])) c (by rw [str_size]; omega) m
  have hp : pieces c (Lib.join ws [c]) [] = ws := pieces_join c ws h0 hf
  have h1 : (Lib.splitB (str [c]) 0 (Lib.countB (str (Lib.join ws [c])) (str [c])) (str (Lib.join ws [c]))).map Value.string = wC ws := by
    have h2 := split_eq (str (Lib.join ws [c])) c
    have h3 : (str (Lib.join ws [c])).data.toList = Lib.join ws [c] := rfl
    rw [h3, hp] at h2
    have h6 : ∀ q : List ByteArray, q.map Value.string = wC (q.map (·.data.toList)) := fun q => by
      unfold wC
      rw [List.map_map]
      rfl
    exact (h6 _).trans (congrArg wC h2)
  have h4 : Lib.countB (str (Lib.join ws [c])) (str [c]) + 1 = ws.length := by
    have h5 := congrArg List.length h1
    rw [List.length_map, wC, List.length_map] at h5
    rw [← h5, Lib.splitB_all (str [c]) (Nat.le_refl 1) 0 _ (str (Lib.join ws [c])) rfl]
  rw [h1, h4] at h
  exact h
end Go.Proofs.YtabffcplbjaklaaGreatDoor
namespace Go.Proofs.YtabffcplbjaklaaGreatDoor.Abs
open Go Go.RowKit
theorem cutPrefix_spec (s p : ByteArray) (m : Mem) :
    Spec Tryz.prog 28 [.string s, .string p] m fun u M => u = .tuple #[.string (str (Lib.trimPrefix s.data.toList p.data.toList)), .bool (Lib.hasPrefix s.data.toList p.data.toList)] ∧ M = m :=
  Spec.of_below rfl fun ι w ys hy hr => by
    rw [flats_eq (by simp [flat]) hy]
    refine (Tryz.strings_CutPrefix s p w).mono ?_
    rintro e w' ⟨rfl, rfl⟩
    exact ⟨rfl, Below.refl _ _⟩
end Go.Proofs.YtabffcplbjaklaaGreatDoor.Abs
namespace Go.Proofs.YtabffcplbjaklaaGreatDoor
open Go.RowKit Abs Stab
def tagLine (G : List UInt8) : List UInt8 := tagW ++ hexV G
def linesOf (S : List Header) (G : List UInt8) : List (List UInt8) := firstW :: (S.map lineV ++ [tagLine G])
theorem join_flat : ∀ (ws : List (List UInt8)), ws ≠ [] → Lib.join ws [10] ++ [10] = ws.flatMap (· ++ [10])
  | [], h => absurd rfl h
  | [w], _ => by rw [join_one]; simp
  | w :: v :: r, _ => by
    rw [join_cons2, List.append_assoc, join_flat (v :: r) (by simp), List.flatMap_cons]
    rfl
theorem putV_join (key : ByteArray) (S : List Header) : putV key S = Lib.join (linesOf S (Sha.tag key.data.toList (bodyOf S))) [10] ++ [10] := by
  rw [join_flat _ (by simp [linesOf])]
  unfold putV linesOf tagLine
  rw [List.flatMap_cons, List.flatMap_append]
  have : bodyOf S = firstW ++ [10] ++ S.flatMap lineN := rfl
  rw [this]
  simp [List.flatMap_map]
  rfl
theorem lines_free (S : List Header) (G : List UInt8) : ∀ w ∈ linesOf S G, 10 ∉ w := by
  intro w hw
  unfold linesOf at hw
  rcases List.mem_cons.1 hw with rfl | hw
  · decide
  · rcases List.mem_append.1 hw with hw | hw
    · obtain ⟨h, _, rfl⟩ := List.mem_map.1 hw
      exact line_free h
    · simp only [List.mem_singleton] at hw
      subst hw
      intro hm
      rcases List.mem_append.1 hm with hm | hm
      · revert hm; decide
      · exact hexV_free _ _ (.inl rfl) hm
theorem join_len (S : List Header) (G : List UInt8) (key : ByteArray) (h : G = Sha.tag key.data.toList (bodyOf S)) : (Lib.join (linesOf S G) [10]).length + 1 = (putV key S).length := by
  rw [putV_join, ← h, List.length_append]; rfl
theorem line_head (h : Header) (h0 : 1 ≤ h.id) : ∃ c r, lineV h = c :: r ∧ c ≠ 116 := by
  have e : lineV h = Lib.itoa h.id ++ [32] ++ Lib.join [Lib.itoa h.n, Lib.itoa h.bytes, Lib.itoa h.raw, hexV h.salt.data.toList, hexV h.root.data.toList, hexV h.tag.data.toList] [32] := join_cons2 _ _ _ _
  have e2 : Lib.itoa h.id = Lib.decDigits h.id.toNat := by unfold Lib.itoa; rw [if_neg (by omega)]
  obtain ⟨d, r, h1, h2, _, _⟩ := dec_head h.id.toNat
  rw [e, e2, h2]
  refine ⟨_, _, rfl, fun hc => ?_⟩
  have := congrArg UInt8.toNat hc
  rw [dig_nat h1] at this
  have h3 : (116 : UInt8).toNat = 116 := rfl
  omega
theorem line_noTag (h : Header) (h0 : 1 ≤ h.id) : Lib.hasPrefix (lineV h) tagW = false := by
  obtain ⟨c, r, e, hc⟩ := line_head h h0
  rw [e]
  unfold Lib.hasPrefix tagW
  simp only [List.isPrefixOf]
  rw [beq_eq_false_iff_ne.2 (Ne.symm hc)]
  rfl
theorem tag_has (x : List UInt8) : Lib.hasPrefix (tagW ++ x) tagW = true := by
  unfold Lib.hasPrefix
  rw [List.isPrefixOf_iff_prefix]
  exact ⟨x, rfl⟩
theorem tag_trim (x : List UInt8) : Lib.trimPrefix (tagW ++ x) tagW = x := by
  unfold Lib.trimPrefix
  rw [if_pos (tag_has x)]
  rfl
theorem putV_len (key : ByteArray) (S : List Header) (hm : ∀ h ∈ S, mayH h = true) (hl : S.length ≤ 256) : (putV key S).length ≤ 3000000 := by
  have h1 := bodyOf_len hm
  have h2 := hexV_len' (Sha.tag key.data.toList (bodyOf S))
  have h3 : (Sha.tag key.data.toList (bodyOf S)).length = 32 := by rw [Sha.tag, Sha.sum_length]
  unfold putV
  have h4 : tagW.length = 4 := rfl
  simp only [List.length_append, List.length_cons, List.length_nil]
  omega
end Go.Proofs.YtabffcplbjaklaaGreatDoor
namespace Go.Proofs.YtabffcplbjaklaaGreatDoor
open Go.RowKit Abs
theorem lowerc_spec (c : Int) (m : Mem) : Abs.Spec Tryz.prog 107 [.int .u8 c] m fun u M => u = .int .u8 (bits .or .u8 c 32) ∧ M = m :=
  Abs.Spec.of_flat (by simp [flat]) rfl fun w => (Tryz.internal_strconv_lower c w).mono fun e w' ⟨h1, h2⟩ => ⟨h1, by subst h2; exact Below.refl _ _⟩
theorem dig_low : ∀ d : Fin 10, ((digit d.val).toNat : Int) = 48 + d.val := by decide
theorem dig_high : ∀ d : Fin 16, 10 ≤ d.val → ((digit d.val).toNat : Int) = 87 + d.val := by decide
theorem or_low : ∀ d : Fin 16, 10 ≤ d.val → bits .or .u8 (87 + (d.val : Int)) 32 = 87 + d.val := by decide +kernel
theorem u8_wrap {z : Int} (h0 : 0 ≤ z) (h1 : z ≤ 255) : IntKind.u8.wrap z = z := by unfold IntKind.wrap; simp [IntKind.bits, IntKind.signed]; omega
theorem u64_wrap {z : Int} (h0 : 0 ≤ z) (h1 : z ≤ 18446744073709551615) : IntKind.u64.wrap z = z := by unfold IntKind.wrap; simp [IntKind.bits, IntKind.signed]; omega
set_option maxRecDepth 100000 in
set_option maxHeartbeats 4000000 in
theorem puint_in (x y : Nat) (hx : x < 16) (hy : y < 16) (m : Mem) :
    Abs.Spec Tryz.prog 79 [.string (str [digit x, digit y]), .int .i64 16, .int .i64 8] m fun u M => u = .tuple #[.int .u64 ((16 * x + y : Nat) : Int), .nilIface] ∧ M = m := by
  refine Abs.Spec.walkB Tryz.func79 (by rfl) _ Tryz.results79 _ Tryz.ntmps79 (by simp) m [] (ext_nil m).symm 0 rfl (.inl rfl) ?_
  intro hc _
  obtain ⟨L, hL⟩ : ∃ L, L = [digit x, digit y] := ⟨_, rfl⟩
  have hLl : L.length = 2 := by rw [hL]; rfl
  have hne : beqB (str L) ⟨#[]⟩ = false := by
    rw [beqB_dec]
    refine decide_eq_false fun e => ?_
    have := congrArg (fun s : ByteArray => s.data.toList.length) e
    simp [str, hLl] at this
  rw [← hL]
  refine CW_seq (CW_region ?_)
  simp only [zZ, reduceIte, Nat.reduceLT, Int.reduceToNat, Int.reduceLE, Int.reduceEq, Int.reduceLT, Nat.reduceEqDiff, Nat.reduceAdd, zMn, Int.reduceBEq, Int.reduceBNe, decide_true, decide_false, Nat.reduceLeDiff, Int.reduceGT, Int.reduceGE]
  refine CW_seq (CW_seq (CW_region ?_))
  simp only [zZ, reduceIte, Nat.reduceLT, Int.reduceToNat, Int.reduceLE, Int.reduceEq, Int.reduceLT, Nat.reduceEqDiff, Nat.reduceAdd, zMn, Int.reduceBEq, Int.reduceBNe, decide_true, decide_false, Nat.reduceLeDiff, Int.reduceGT, Int.reduceGE, hne]
  refine CW_cond false (by rfl) (fun h => by cases h) (fun _ => CW_skip ?_)
  simp only [zZ, reduceIte, Nat.reduceLT, Int.reduceToNat, Int.reduceLE, Int.reduceEq, Int.reduceLT, Nat.reduceEqDiff, Nat.reduceAdd]
  refine CW_seq (CW_region ?_)
  simp only [zZ, reduceIte, Nat.reduceLT, Int.reduceToNat, Int.reduceLE, Int.reduceEq, Int.reduceLT, Nat.reduceEqDiff, Nat.reduceAdd, zMn, Int.reduceBEq, Int.reduceBNe, decide_true, decide_false, Nat.reduceLeDiff, Int.reduceGT, Int.reduceGE]
  refine CW_seq (CW_region ?_)
  simp only [zZ, reduceIte, Nat.reduceLT, Int.reduceToNat, Int.reduceLE, Int.reduceEq, Int.reduceLT, Nat.reduceEqDiff, Nat.reduceAdd, zMn, Int.reduceBEq, Int.reduceBNe, decide_true, decide_false, Nat.reduceLeDiff, Int.reduceGT, Int.reduceGE]
  refine CW_seq (CW_block (CW_seq (CW_region ?_)))
  simp only [zZ, reduceIte, Nat.reduceLT, Int.reduceToNat, Int.reduceLE, Int.reduceEq, Int.reduceLT, Nat.reduceEqDiff, Nat.reduceAdd, zMn, Int.reduceBEq, Int.reduceBNe, decide_true, decide_false, Nat.reduceLeDiff, Int.reduceGT, Int.reduceGE]
  refine CW_cond true (by rfl) (fun _ => CW_skip ?_) (fun h => by cases h)
  simp only [zZ, reduceIte, Nat.reduceLT, Int.reduceToNat, Int.reduceLE, Int.reduceEq, Int.reduceLT, Nat.reduceEqDiff, Nat.reduceAdd]
  refine CW_seq (CW_seq (CW_region ?_))
  simp only [zZ, reduceIte, Nat.reduceLT, Int.reduceToNat, Int.reduceLE, Int.reduceEq, Int.reduceLT, Nat.reduceEqDiff, Nat.reduceAdd, zMn, Int.reduceBEq, Int.reduceBNe, decide_true, decide_false, Nat.reduceLeDiff, Int.reduceGT, Int.reduceGE]
  refine CW_cond false (by rfl) (fun h => by cases h) (fun _ => CW_seq (CW_region ?_))
  simp only [zZ, reduceIte, Nat.reduceLT, Int.reduceToNat, Int.reduceLE, Int.reduceEq, Int.reduceLT, Nat.reduceEqDiff, Nat.reduceAdd, zMn, Int.reduceBEq, Int.reduceBNe, decide_true, decide_false, Nat.reduceLeDiff, Int.reduceGT, Int.reduceGE]
  refine CW_cond false (by rfl) (fun h => by cases h) (fun _ => CW_skip ?_)
  simp only [zZ, reduceIte, Nat.reduceLT, Int.reduceToNat, Int.reduceLE, Int.reduceEq, Int.reduceLT, Nat.reduceEqDiff, Nat.reduceAdd]
  refine CW_seq (CW_region ?_)
  simp only [zZ, reduceIte, Nat.reduceLT, Int.reduceToNat, Int.reduceLE, Int.reduceEq, Int.reduceLT, Nat.reduceEqDiff, Nat.reduceAdd, zMn, Int.reduceBEq, Int.reduceBNe, decide_true, decide_false, Nat.reduceLeDiff, Int.reduceGT, Int.reduceGE]
  refine CW_seq (CW_seq (CW_region ?_))
  simp only [zZ, reduceIte, Nat.reduceLT, Int.reduceToNat, Int.reduceLE, Int.reduceEq, Int.reduceLT, Nat.reduceEqDiff, Nat.reduceAdd, zMn, Int.reduceBEq, Int.reduceBNe, decide_true, decide_false, Nat.reduceLeDiff, Int.reduceGT, Int.reduceGE]
  refine CW_block (CW_seq (CW_region ?_))
  simp only [zZ, reduceIte, Nat.reduceLT, Int.reduceToNat, Int.reduceLE, Int.reduceEq, Int.reduceLT, Nat.reduceEqDiff, Nat.reduceAdd, zMn, Int.reduceBEq, Int.reduceBNe, decide_true, decide_false, Nat.reduceLeDiff, Int.reduceGT, Int.reduceGE]
  refine CW_cond false (by rfl) (fun h => by cases h) (fun _ => CW_seq (CW_region ?_))
  simp only [zZ, reduceIte, Nat.reduceLT, Int.reduceToNat, Int.reduceLE, Int.reduceEq, Int.reduceLT, Nat.reduceEqDiff, Nat.reduceAdd, zMn, Int.reduceBEq, Int.reduceBNe, decide_true, decide_false, Nat.reduceLeDiff, Int.reduceGT, Int.reduceGE]
  refine CW_cond true (by rfl) (fun _ => CW_region ?_) (fun h => by cases h)
  simp only [zZ, reduceIte, Nat.reduceLT, Int.reduceToNat, Int.reduceLE, Int.reduceEq, Int.reduceLT, Nat.reduceEqDiff, Nat.reduceAdd, zMn, Int.reduceBEq, Int.reduceBNe, decide_true, decide_false, Nat.reduceLeDiff, Int.reduceGT, Int.reduceGE]
  have w255 : IntKind.u64.wrap (IntKind.u64.wrap (1 * 2 ^ min 8 IntKind.u64.bits) - 1) = 255 := by decide +kernel
  have w8 : IntKind.u64.wrap 8 = 8 := by decide
  have w16 : IntKind.u8.wrap 16 = 16 := by decide
  have w16b : IntKind.u64.wrap 16 = 16 := by decide
  have hnew := new_bytes_str L (by omega)
  refine CW_seq (CW_region ?_)
  simp only [zZ, reduceIte, Nat.reduceLT, Int.reduceToNat, Int.reduceLE, Int.reduceEq, Int.reduceLT, Nat.reduceEqDiff, Nat.reduceAdd, zMn, Int.reduceBEq, Int.reduceBNe, decide_true, decide_false, Nat.reduceLeDiff, Int.reduceGT, Int.reduceGE, w8, w255]
  refine CW_seq (CW_region ?_)
  simp only [zZ, reduceIte, Nat.reduceLT, Int.reduceToNat, Int.reduceLE, Int.reduceEq, Int.reduceLT, Nat.reduceEqDiff, Nat.reduceAdd, zMn, Int.reduceBEq, Int.reduceBNe, decide_true, decide_false, Nat.reduceLeDiff, Int.reduceGT, Int.reduceGE]
  refine CW_seq (CW_region ?_)
  simp only [zZ, reduceIte, Nat.reduceLT, Int.reduceToNat, Int.reduceLE, Int.reduceEq, Int.reduceLT, Nat.reduceEqDiff, Nat.reduceAdd, zMn, Int.reduceBEq, Int.reduceBNe, decide_true, decide_false, Nat.reduceLeDiff, Int.reduceGT, Int.reduceGE]
  have c2 : ((2 : Nat) : Int) = 2 := rfl
  have hbs : bsize (str L) = 2 := by rw [bsize_str, hLl]
  have rb : ∀ (σ : Nat → Option Nat), renL (ren σ 4) (bytesV L) = some (bytesV L) := fun σ => renL_flat fun x hx => by
      simp only [bytesV, List.mem_map] at hx
      obtain ⟨y, _, rfl⟩ := hx
      rfl
  refine BW_mid hc (fun f l => f = [(0, .string (str L)), (12, .bool false), (13, .int .u64 ((16 * x + y : Nat) : Int))] ∧ l = []) ?_ ?_
  · refine CW_seq (CW_region ?_)
    simp only [zZ, reduceIte, Nat.reduceLT, Int.reduceToNat, Int.reduceLE, Int.reduceEq, Int.reduceLT, Nat.reduceEqDiff, Nat.reduceAdd, zMn, Int.reduceBEq, Int.reduceBNe, decide_true, decide_false, Nat.reduceLeDiff, Int.reduceGT, Int.reduceGE, hnew, hbs, c2]
    refine CW_block (BW_loop hc (fun n f l => ∃ t v : Nat, t + n = 2 ∧ f = [(0, .string (str L)), (1, .int .i64 16), (8, .bool false), (9, .string (str L)), (10, .int .u64 1152921504606846976), (11, .int .u64 255), (12, .bool false), (13, .int .u64 (v : Int)), (99, .slice (some ⟨m.size + 0, 0, none⟩) 2 2), (100, .int .i64 2), (101, .int .i64 (t : Int))] ∧
      v = (if t = 0 then 0 else if t = 1 then x else 16 * x + y) ∧ l = [some (some (.cells false 1 (bytesV L)))]) 2 ?_ ?_)
    · refine ⟨_, rfl, [0], [0, 1, 8, 9, 10, 11, 12, 13, 99, 100, 101], rfl, ?_⟩
      simp only [zZ, reduceIte, Nat.reduceLT, Int.reduceToNat, Int.reduceLE, Int.reduceEq, Int.reduceLT, Nat.reduceEqDiff, Nat.reduceAdd, zG, rb]
      refine ⟨0, 0, by omega, ?_⟩
      simp
    · rintro n f l ⟨t, v, htn, rfl, hv, rfl⟩
      refine CW_seq (CW_region ?_)
      simp only [zZ, reduceIte, Nat.reduceLT, Int.reduceToNat, Int.reduceLE, Int.reduceEq, Int.reduceLT, Nat.reduceEqDiff, Nat.reduceAdd, zMn, Int.reduceBEq, Int.reduceBNe, decide_true, decide_false, Nat.reduceLeDiff, Int.reduceGT, Int.reduceGE]
      refine CW_seq (CW_cond (decide ((t : Int) < 2)) (by rfl) (fun h => CW_skip ?_) (fun h => CW_exit ?_))
      · have h := of_decide_eq_true h
        have ht : t = 0 ∨ t = 1 := by omega
        obtain ⟨d, hd, hLd, hvd⟩ : ∃ d : Nat, d < 16 ∧ L[t]? = some (digit d) ∧ v * 16 + d = (if t + 1 = 0 then 0 else if t + 1 = 1 then x else 16 * x + y) ∧ v < 16 := by
          rcases ht with rfl | rfl
          · exact ⟨x, hx, by rw [hL]; rfl, by simp at hv ⊢; omega, by simp at hv; omega⟩
          · exact ⟨y, hy, by rw [hL]; rfl, by simp at hv ⊢; omega, by simp at hv; omega⟩
        obtain ⟨hvd, hv16⟩ := hvd
        have z0 : (0 : Int) ≤ (t : Int) := by omega
        have hc1 : cellIn t (some (.cells false 1 (bytesV L))) = some (.int .u8 ((digit d).toNat : Int)) := by
          simp [cellIn, bytesV, hLd, byteV]
        obtain ⟨C, hC⟩ : ∃ C : Int, C = ((digit d).toNat : Int) := ⟨_, rfl⟩
        rw [← hC] at hc1
        have q95 : (C == 95) = false := by
          have : ∀ d : Fin 16, (((digit d.val).toNat : Int) == 95) = false := by decide
          rw [hC]; exact this ⟨d, hd⟩
        have ldb : ∀ (get : Nat → Option Blk) (b o : Nat), gLoad Tryz.prog get 5 (.pointer (some ⟨b, o, none⟩)) = cellIn o (get b) := fun get b o => ld_cell Tryz.underlying5 rfl get b o
        simp only [zZ, reduceIte, Nat.reduceLT, Int.reduceToNat, Int.reduceLE, Int.reduceEq, Int.reduceLT, Nat.reduceEqDiff, Nat.reduceAdd]
        refine CW_seq (CW_block (CW_seq (CW_region ?_)))
        simp only [zZ, reduceIte, Nat.reduceLT, Int.reduceToNat, Int.reduceLE, Int.reduceEq, Int.reduceLT, Nat.reduceEqDiff, Nat.reduceAdd, zMn, Int.reduceBEq, Int.reduceBNe, decide_true, decide_false, Nat.reduceLeDiff, Int.reduceGT, Int.reduceGE, z0, c2, h, and_self, Int.toNat_natCast, ldb, hc1]
        refine CW_seq (CW_region ?_)
        simp only [zZ, reduceIte, Nat.reduceLT, Int.reduceToNat, Int.reduceLE, Int.reduceEq, Int.reduceLT, Nat.reduceEqDiff, Nat.reduceAdd, zMn, Int.reduceBEq, Int.reduceBNe, decide_true, decide_false, Nat.reduceLeDiff, Int.reduceGT, Int.reduceGE]
        refine BW_mid hc (fun f l => f = [(0, .string (str L)), (1, .int .i64 16), (8, .bool false), (9, .string (str L)), (10, .int .u64 1152921504606846976), (11, .int .u64 255), (12, .bool false), (13, .int .u64 (v : Int)), (16, .int .u8 (d : Int)), (99, .slice (some ⟨m.size + 0, 0, none⟩) 2 2), (100, .int .i64 2), (101, .int .i64 (t : Int))] ∧
            l = [some (some (.cells false 1 (bytesV L)))]) ?_ ?_
        · refine CW_block (CW_seq (CW_region ?_))
          simp only [zZ, reduceIte, Nat.reduceLT, Int.reduceToNat, Int.reduceLE, Int.reduceEq, Int.reduceLT, Nat.reduceEqDiff, Nat.reduceAdd, zMn, Int.reduceBEq, Int.reduceBNe, decide_true, decide_false, Nat.reduceLeDiff, Int.reduceGT, Int.reduceGE, q95]
          refine CW_cond false (by rfl) (fun h => by cases h) (fun _ => CW_seq (CW_region ?_))
          by_cases hd10 : d < 10
          · have e1 : C = 48 + d := by rw [hC]; exact dig_low ⟨d, hd10⟩
            have q1 : decide ((48 : Int) ≤ C) = true := decide_eq_true (by omega)
            have q2 : decide (C ≤ 57) = true := decide_eq_true (by omega)
            have e2 : IntKind.u8.wrap (C - 48) = (d : Int) := by rw [u8_wrap (by omega) (by omega)]; omega
            simp only [zZ, reduceIte, Nat.reduceLT, Int.reduceToNat, Int.reduceLE, Int.reduceEq, Int.reduceLT, Nat.reduceEqDiff, Nat.reduceAdd, zMn, Int.reduceBEq, Int.reduceBNe, decide_true, decide_false, Nat.reduceLeDiff, Int.reduceGT, Int.reduceGE, q1, q2]
            refine CW_cond true (by rfl) (fun _ => CW_region ?_) (fun h => by cases h)
            simp only [zZ, reduceIte, Nat.reduceLT, Int.reduceToNat, Int.reduceLE, Int.reduceEq, Int.reduceLT, Nat.reduceEqDiff, Nat.reduceAdd, zMn, Int.reduceBEq, Int.reduceBNe, decide_true, decide_false, Nat.reduceLeDiff, Int.reduceGT, Int.reduceGE, e2]
            refine ⟨_, rfl, [0], [0, 1, 8, 9, 10, 11, 12, 13, 16, 99, 100, 101], rfl, ?_⟩
            simp only [zZ, reduceIte, Nat.reduceLT, Int.reduceToNat, Int.reduceLE, Int.reduceEq, Int.reduceLT, Nat.reduceEqDiff, Nat.reduceAdd, zG, rb]
          · have e1 : C = 87 + d := by rw [hC]; exact dig_high ⟨d, hd⟩ (by show 10 ≤ d; omega)
            have q1 : decide ((48 : Int) ≤ C) = true := decide_eq_true (by omega)
            have q2 : decide (C ≤ 57) = false := decide_eq_false (by omega)
            have e2 : bits .or .u8 C 32 = C := by rw [e1]; exact or_low ⟨d, hd⟩ (by show 10 ≤ d; omega)
            have q3 : decide ((97 : Int) ≤ C) = true := decide_eq_true (by omega)
            have q4 : decide (C ≤ 122) = true := decide_eq_true (by omega)
            have e3 : IntKind.u8.wrap (C - 97) = C - 97 := u8_wrap (by omega) (by omega)
            have e4 : IntKind.u8.wrap (C - 97 + 10) = (d : Int) := by rw [u8_wrap (by omega) (by omega)]; omega
            simp only [zZ, reduceIte, Nat.reduceLT, Int.reduceToNat, Int.reduceLE, Int.reduceEq, Int.reduceLT, Nat.reduceEqDiff, Nat.reduceAdd, zMn, Int.reduceBEq, Int.reduceBNe, decide_true, decide_false, Nat.reduceLeDiff, Int.reduceGT, Int.reduceGE, q1, q2]
            refine CW_cond false (by rfl) (fun h => by cases h) (fun _ => CW_seq (CW_region ?_))
            simp only [zZ, reduceIte, Nat.reduceLT, Int.reduceToNat, Int.reduceLE, Int.reduceEq, Int.reduceLT, Nat.reduceEqDiff, Nat.reduceAdd, zMn, Int.reduceBEq, Int.reduceBNe, decide_true, decide_false, Nat.reduceLeDiff, Int.reduceGT, Int.reduceGE]
            refine ⟨by kernel_rfl, _, lowerc_spec C _, ?_⟩
            rintro _ _ ⟨rfl, rfl⟩
            simp only [zZ, reduceIte, Nat.reduceLT, Int.reduceToNat, Int.reduceLE, Int.reduceEq, Int.reduceLT, Nat.reduceEqDiff, Nat.reduceAdd, zMn, Int.reduceBEq, Int.reduceBNe, decide_true, decide_false, Nat.reduceLeDiff, Int.reduceGT, Int.reduceGE, e2, q3]
            refine ⟨by kernel_rfl, _, lowerc_spec C _, ?_⟩
            rintro _ _ ⟨rfl, rfl⟩
            simp only [zZ, reduceIte, Nat.reduceLT, Int.reduceToNat, Int.reduceLE, Int.reduceEq, Int.reduceLT, Nat.reduceEqDiff, Nat.reduceAdd, zMn, Int.reduceBEq, Int.reduceBNe, decide_true, decide_false, Nat.reduceLeDiff, Int.reduceGT, Int.reduceGE, e2, q3, q4]
            refine CW_cond true (by rfl) (fun _ => CW_region ?_) (fun h => by cases h)
            simp only [zZ, reduceIte, Nat.reduceLT, Int.reduceToNat, Int.reduceLE, Int.reduceEq, Int.reduceLT, Nat.reduceEqDiff, Nat.reduceAdd, zMn, Int.reduceBEq, Int.reduceBNe, decide_true, decide_false, Nat.reduceLeDiff, Int.reduceGT, Int.reduceGE]
            refine ⟨by kernel_rfl, _, lowerc_spec C _, ?_⟩
            rintro _ _ ⟨rfl, rfl⟩
            simp only [zZ, reduceIte, Nat.reduceLT, Int.reduceToNat, Int.reduceLE, Int.reduceEq, Int.reduceLT, Nat.reduceEqDiff, Nat.reduceAdd, zMn, Int.reduceBEq, Int.reduceBNe, decide_true, decide_false, Nat.reduceLeDiff, Int.reduceGT, Int.reduceGE, e2, e3, e4]
            refine ⟨_, rfl, [0], [0, 1, 8, 9, 10, 11, 12, 13, 16, 99, 100, 101], rfl, ?_⟩
            simp only [zZ, reduceIte, Nat.reduceLT, Int.reduceToNat, Int.reduceLE, Int.reduceEq, Int.reduceLT, Nat.reduceEqDiff, Nat.reduceAdd, zG, rb]
        · rintro f l ⟨rfl, rfl⟩
          have q1 : decide ((d : Int) ≥ 16) = false := decide_eq_false (by omega)
          have q2 : decide ((v : Int) ≥ 1152921504606846976) = false := decide_eq_false (by omega)
          have e1 : IntKind.u64.wrap ((v : Int) * 16) = (v : Int) * 16 := u64_wrap (by omega) (by omega)
          have e0 : IntKind.u64.wrap (d : Int) = (d : Int) := u64_wrap (by omega) (by omega)
          have e2 : IntKind.u64.wrap ((v : Int) * 16 + (d : Int)) = ((v * 16 + d : Nat) : Int) := by rw [u64_wrap (by omega) (by omega)]; omega
          have q3 : decide (((v * 16 + d : Nat) : Int) < (v : Int) * 16) = false := decide_eq_false (by omega)
          have q4 : decide (((v * 16 + d : Nat) : Int) > 255) = false := decide_eq_false (by omega)
          refine CW_seq (CW_seq (CW_region ?_))
          simp only [zZ, reduceIte, Nat.reduceLT, Int.reduceToNat, Int.reduceLE, Int.reduceEq, Int.reduceLT, Nat.reduceEqDiff, Nat.reduceAdd, zMn, Int.reduceBEq, Int.reduceBNe, decide_true, decide_false, Nat.reduceLeDiff, Int.reduceGT, Int.reduceGE, w16, q1]
          refine CW_cond false (by rfl) (fun h => by cases h) (fun _ => CW_skip ?_)
          simp only [zZ, reduceIte, Nat.reduceLT, Int.reduceToNat, Int.reduceLE, Int.reduceEq, Int.reduceLT, Nat.reduceEqDiff, Nat.reduceAdd]
          refine CW_seq (CW_seq (CW_region ?_))
          simp only [zZ, reduceIte, Nat.reduceLT, Int.reduceToNat, Int.reduceLE, Int.reduceEq, Int.reduceLT, Nat.reduceEqDiff, Nat.reduceAdd, zMn, Int.reduceBEq, Int.reduceBNe, decide_true, decide_false, Nat.reduceLeDiff, Int.reduceGT, Int.reduceGE, q2]
          refine CW_cond false (by rfl) (fun h => by cases h) (fun _ => CW_skip ?_)
          simp only [zZ, reduceIte, Nat.reduceLT, Int.reduceToNat, Int.reduceLE, Int.reduceEq, Int.reduceLT, Nat.reduceEqDiff, Nat.reduceAdd]
          refine CW_seq (CW_region ?_)
          simp only [zZ, reduceIte, Nat.reduceLT, Int.reduceToNat, Int.reduceLE, Int.reduceEq, Int.reduceLT, Nat.reduceEqDiff, Nat.reduceAdd, zMn, Int.reduceBEq, Int.reduceBNe, decide_true, decide_false, Nat.reduceLeDiff, Int.reduceGT, Int.reduceGE, w16b, e1]
          refine CW_seq (CW_region ?_)
          simp only [zZ, reduceIte, Nat.reduceLT, Int.reduceToNat, Int.reduceLE, Int.reduceEq, Int.reduceLT, Nat.reduceEqDiff, Nat.reduceAdd, zMn, Int.reduceBEq, Int.reduceBNe, decide_true, decide_false, Nat.reduceLeDiff, Int.reduceGT, Int.reduceGE, e0, e2]
          refine CW_seq (CW_seq (CW_region ?_))
          simp only [zZ, reduceIte, Nat.reduceLT, Int.reduceToNat, Int.reduceLE, Int.reduceEq, Int.reduceLT, Nat.reduceEqDiff, Nat.reduceAdd, zMn, Int.reduceBEq, Int.reduceBNe, decide_true, decide_false, Nat.reduceLeDiff, Int.reduceGT, Int.reduceGE, q3, q4]
          refine CW_cond false (by rfl) (fun h => by cases h) (fun _ => CW_skip ?_)
          simp only [zZ, reduceIte, Nat.reduceLT, Int.reduceToNat, Int.reduceLE, Int.reduceEq, Int.reduceLT, Nat.reduceEqDiff, Nat.reduceAdd]
          refine CW_region ?_
          simp only [zZ, reduceIte, Nat.reduceLT, Int.reduceToNat, Int.reduceLE, Int.reduceEq, Int.reduceLT, Nat.reduceEqDiff, Nat.reduceAdd, zMn, Int.reduceBEq, Int.reduceBNe, decide_true, decide_false, Nat.reduceLeDiff, Int.reduceGT, Int.reduceGE]
          refine CW_region ?_
          have xi : IntKind.i64.wrap ((t : Int) + 1) = ((t + 1 : Nat) : Int) := by rw [wr (by omega) (by omega)]; omega
          simp only [zZ, reduceIte, Nat.reduceLT, Int.reduceToNat, Int.reduceLE, Int.reduceEq, Int.reduceLT, Nat.reduceEqDiff, Nat.reduceAdd, zMn, Int.reduceBEq, Int.reduceBNe, decide_true, decide_false, Nat.reduceLeDiff, Int.reduceGT, Int.reduceGE, xi]
          refine ⟨_, rfl, [0], [0, 1, 8, 9, 10, 11, 12, 13, 99, 100, 101], rfl, ?_⟩
          simp only [zZ, reduceIte, Nat.reduceLT, Int.reduceToNat, Int.reduceLE, Int.reduceEq, Int.reduceLT, Nat.reduceEqDiff, Nat.reduceAdd, zG, rb]
          refine ⟨n - 1, ⟨t + 1, v * 16 + d, by omega, ?_⟩, by omega⟩
          simp [hvd]
      · have h := of_decide_eq_false h
        have ht : t = 2 := by omega
        subst ht
        refine ⟨_, rfl, [], [0, 12, 13], rfl, ?_⟩
        simp only [zZ, reduceIte, Nat.reduceLT, Int.reduceToNat, Int.reduceLE, Int.reduceEq, Int.reduceLT, Nat.reduceEqDiff, Nat.reduceAdd, zG]
        simp at hv
        simp [hv]
  · rintro f l ⟨rfl, rfl⟩
    refine CW_seq (CW_seq (CW_region ?_))
    simp only [zZ, reduceIte, Nat.reduceLT, Int.reduceToNat, Int.reduceLE, Int.reduceEq, Int.reduceLT, Nat.reduceEqDiff, Nat.reduceAdd, zMn, Int.reduceBEq, Int.reduceBNe, decide_true, decide_false, Nat.reduceLeDiff, Int.reduceGT, Int.reduceGE]
    refine CW_cond false (by rfl) (fun h => by cases h) (fun _ => CW_skip ?_)
    simp only [zZ, reduceIte, Nat.reduceLT, Int.reduceToNat, Int.reduceLE, Int.reduceEq, Int.reduceLT, Nat.reduceEqDiff, Nat.reduceAdd]
    refine CW_seq (CW_region ?_)
    simp only [zZ, reduceIte, Nat.reduceLT, Int.reduceToNat, Int.reduceLE, Int.reduceEq, Int.reduceLT, Nat.reduceEqDiff, Nat.reduceAdd, zMn, Int.reduceBEq, Int.reduceBNe, decide_true, decide_false, Nat.reduceLeDiff, Int.reduceGT, Int.reduceGE]
    refine CW_ret ?_
    simp only [zZ, reduceIte, Nat.reduceLT, Int.reduceToNat, Int.reduceLE, Int.reduceEq, Int.reduceLT, Nat.reduceEqDiff, Nat.reduceAdd, zMn, Int.reduceBEq, Int.reduceBNe, decide_true, decide_false, Nat.reduceLeDiff, Int.reduceGT, Int.reduceGE, bEnd, sAnswer, sAnswer.sRes]
    exact told_flat rfl rfl
theorem neq_nil : aBin Tryz.prog .neq 48 true .nilIface .nilIface = some (.bool false) := by kernel_rfl
set_option maxRecDepth 100000 in
set_option maxHeartbeats 4000000 in
theorem puint_spec (x y : Nat) (hx : x < 16) (hy : y < 16) (m : Mem) :
    Abs.Spec Tryz.prog 58 [.string (str [digit x, digit y]), .int .i64 16, .int .i64 8] m fun u M => u = .tuple #[.int .u64 ((16 * x + y : Nat) : Int), .nilIface] ∧ M = m := by
  refine Abs.Spec.walkB Tryz.func58 (by rfl) _ Tryz.results58 _ Tryz.ntmps58 (by simp) m [] (ext_nil m).symm 0 rfl (.inl rfl) ?_
  intro hc _
  refine CW_seq (CW_region ?_)
  simp only [zZ, reduceIte, Nat.reduceLT, Int.reduceToNat, Int.reduceLE, Int.reduceEq, Int.reduceLT, Nat.reduceEqDiff, Nat.reduceAdd, zMn, Int.reduceBEq, Int.reduceBNe, decide_true, decide_false]
  refine CW_seq (CW_region ?_)
  simp only [zZ, reduceIte, Nat.reduceLT, Int.reduceToNat, Int.reduceLE, Int.reduceEq, Int.reduceLT, Nat.reduceEqDiff, Nat.reduceAdd, zMn, Int.reduceBEq, Int.reduceBNe, decide_true, decide_false]
  refine ⟨by kernel_rfl, _, puint_in x y hx hy _, ?_⟩
  rintro _ _ ⟨rfl, rfl⟩
  simp only [zZ, reduceIte, Nat.reduceLT, Int.reduceToNat, Int.reduceLE, Int.reduceEq, Int.reduceLT, Nat.reduceEqDiff, Nat.reduceAdd, zMn, Int.reduceBEq, Int.reduceBNe, decide_true, decide_false]
  refine CW_seq (CW_seq (CW_region ?_))
  simp only [zZ, reduceIte, Nat.reduceLT, Int.reduceToNat, Int.reduceLE, Int.reduceEq, Int.reduceLT, Nat.reduceEqDiff, Nat.reduceAdd, zMn, neq_nil]
  refine CW_cond false (by rfl) (fun h => by cases h) (fun _ => CW_skip ?_)
  simp only [zZ, reduceIte, Nat.reduceLT, Int.reduceToNat, Int.reduceLE, Int.reduceEq, Int.reduceLT, Nat.reduceEqDiff, Nat.reduceAdd]
  refine CW_seq (CW_region ?_)
  simp only [zZ, reduceIte, Nat.reduceLT, Int.reduceToNat, Int.reduceLE, Int.reduceEq, Int.reduceLT, Nat.reduceEqDiff, Nat.reduceAdd, zMn, Int.reduceBEq, Int.reduceBNe, decide_true, decide_false]
  refine CW_ret ?_
  simp only [zZ, reduceIte, Nat.reduceLT, Int.reduceToNat, Int.reduceLE, Int.reduceEq, Int.reduceLT, Nat.reduceEqDiff, Nat.reduceAdd, zMn, Int.reduceBEq, Int.reduceBNe, decide_true, decide_false, bEnd, sAnswer, sAnswer.sRes]
  exact told_flat rfl rfl
end Go.Proofs.YtabffcplbjaklaaGreatDoor
namespace Go.Proofs.YtabffcplbjaklaaGreatDoor
open Go.RowKit Abs
theorem dig_ascii : ∀ d : Fin 16, (digit d.val).toNat < 128 := by decide
theorem dig_lower : ∀ d : Fin 16, Lib.toLowerA [digit d.val] = [digit d.val] := by decide
theorem lowered_spec (x y : Nat) (hx : x < 16) (hy : y < 16) (m : Mem) : Abs.Spec Tryz.prog 59 [.string (str [digit x, digit y])] m fun u M => u = .string (str [digit x, digit y]) ∧ M = m :=
  Abs.Spec.of_flat (by simp [flat]) rfl fun w => by
    have h := Tryz.strings_ToLower_ascii (str [digit x, digit y]) w (by show ([digit x, digit y] : List UInt8).length ≤ _; simp) (by
      intro j b hb
      have hb' : ([digit x, digit y] : List UInt8)[j]? = some b := hb
      rcases j with _ | _ | j
      · cases hb'; exact dig_ascii ⟨x, hx⟩
      · cases hb'; exact dig_ascii ⟨y, hy⟩
      · cases hb')
    have e : Lib.toLowerA (str [digit x, digit y]).data.toList = [digit x, digit y] := by
      have h1 := dig_lower ⟨x, hx⟩
      have h2 := dig_lower ⟨y, hy⟩
      show Lib.toLowerA [digit x, digit y] = _
      unfold Lib.toLowerA at h1 h2 ⊢
      simp only [List.map_cons, List.map_nil, List.cons.injEq, and_true] at h1 h2 ⊢
      exact ⟨h1, h2⟩
    rw [e] at h
    exact h
theorem hexL_at : ∀ (q : List UInt8) (t : Nat) (b : UInt8), q[t]? = some b → ((hexL q).drop (2 * t)).take 2 = [digit (b.toNat / 16), digit (b.toNat % 16)]
  | [], t, b, h => by cases h
  | x :: r, 0, b, h => by
    cases h
    rfl
  | x :: r, t + 1, b, h => by
    have := hexL_at r t b h
    have e : hexL (x :: r) = digit (x.toNat / 16) :: digit (x.toNat % 16) :: hexL r := rfl
    rw [e, show 2 * (t + 1) = 2 * t + 1 + 1 by omega, List.drop_succ_cons, List.drop_succ_cons]
    exact this
set_option maxRecDepth 100000 in
set_option maxHeartbeats 4000000 in
theorem munhex_spec (q : List UInt8) (N : Nat) (hN : q.length = N) (h0 : 0 < N) (hN2 : N ≤ 1000) (m : Mem) :
    Abs.Spec Tryz.prog 29 [.string (str (hexL q)), .int .i64 (N : Nat)] m fun u M => u = .tuple #[.string (str q), .bool true] ∧ M = m := by
  refine Abs.Spec.walkB Tryz.func29 (by rfl) _ Tryz.results29 _ Tryz.ntmps29 (by simp) m [] (ext_nil m).symm 0 rfl (.inl rfl) ?_
  intro hc _
  obtain ⟨H, hH⟩ : ∃ H, H = hexL q := ⟨_, rfl⟩
  have hHl : H.length = 2 * N := by rw [hH, hexL_len, hN]
  have hbs : bsize (str H) = 2 * N := by rw [bsize_str, hHl]
  have rb : ∀ (σ : Nat → Option Nat) (p : List UInt8), renL (ren σ 4) (bytesV p) = some (bytesV p) := fun σ p => renL_flat fun x hx => by
    simp only [bytesV, List.mem_map] at hx
    obtain ⟨y, _, rfl⟩ := hx
    rfl
  have m1 : IntKind.i64.wrap (2 * (N : Int)) = ((2 * N : Nat) : Int) := by rw [wr (by omega) (by omega)]; omega
  have q0 : (((2 * N : Nat) : Int) != ((2 * N : Nat) : Int)) = false := bne_self_eq_false _
  rw [← hH]
  refine CW_seq (CW_region ?_)
  simp only [zZ, reduceIte, Nat.reduceLT, Int.reduceToNat, Int.reduceLE, Int.reduceEq, Int.reduceLT, Nat.reduceEqDiff, Nat.reduceAdd, zMn, zHex]
  refine CW_seq (CW_seq (CW_region ?_))
  simp only [zZ, reduceIte, Nat.reduceLT, Int.reduceToNat, Int.reduceLE, Int.reduceEq, Int.reduceLT, Nat.reduceEqDiff, Nat.reduceAdd, zMn, zHex, hbs, m1, q0]
  refine CW_cond false (by rfl) (fun h => by cases h) (fun _ => CW_skip ?_)
  simp only [zZ, reduceIte, Nat.reduceLT, Int.reduceToNat, Int.reduceLE, Int.reduceEq, Int.reduceLT, Nat.reduceEqDiff, Nat.reduceAdd]
  refine CW_seq (CW_region ?_)
  simp only [zZ, reduceIte, Nat.reduceLT, Int.reduceToNat, Int.reduceLE, Int.reduceEq, Int.reduceLT, Nat.reduceEqDiff, Nat.reduceAdd, zMn, zHex]
  refine CW_seq (CW_seq (CW_region ?_))
  simp only [zZ, reduceIte, Nat.reduceLT, Int.reduceToNat, Int.reduceLE, Int.reduceEq, Int.reduceLT, Nat.reduceEqDiff, Nat.reduceAdd, zMn, zHex]
  refine CW_block (BW_loop hc (fun n f l => ∃ (t : Nat) (V : Value), t + n = N ∧ f = [(0, .string (str H)), (6, V), (15, .int .i64 (N : Int)), (16, .int .i64 (t : Int))] ∧
    ((t = 0 ∧ V = .slice none 0 0 ∧ l = []) ∨ (0 < t ∧ V = .slice (some ⟨m.size + 0, 0, none⟩) t t ∧ l = [some (some (.cells false 1 (bytesV (q.take t))))]))) N ?_ ?_)
  · refine ⟨_, rfl, [], [0, 6, 15, 16], rfl, ?_⟩
    simp only [zZ, reduceIte, Nat.reduceLT, Int.reduceToNat, Int.reduceLE, Int.reduceEq, Int.reduceLT, Nat.reduceEqDiff, Nat.reduceAdd, zG]
    exact ⟨0, _, by omega, rfl, .inl ⟨rfl, rfl⟩⟩
  · rintro n f l ⟨t, V, htn, rfl, hV⟩
    refine CW_seq (CW_region ?_)
    simp only [zZ, reduceIte, Nat.reduceLT, Int.reduceToNat, Int.reduceLE, Int.reduceEq, Int.reduceLT, Nat.reduceEqDiff, Nat.reduceAdd, zMn, zHex]
    refine CW_seq (CW_cond (decide ((t : Int) < (N : Int))) (by rfl) (fun h => CW_skip ?_) (fun h => CW_exit ?_))
    · have htl : t < N := by have := of_decide_eq_true h; omega
      obtain ⟨b, hb⟩ : ∃ b, q[t]? = some b := ⟨_, List.getElem?_eq_getElem (by omega)⟩
      have hb16 : b.toNat / 16 < 16 := by have := b.toNat_lt; omega
      have hb16' : b.toNat % 16 < 16 := by omega
      have m2 : IntKind.i64.wrap (2 * (t : Int)) = ((2 * t : Nat) : Int) := by rw [wr (by omega) (by omega)]; omega
      have m3 : IntKind.i64.wrap (((2 * t : Nat) : Int) + 2) = ((2 * t + 2 : Nat) : Int) := by rw [wr (by omega) (by omega)]; omega
      have hsl : ∀ get, gSlice Tryz.prog get 9 (.string (str H)) (some (.int .i64 ((2 * t : Nat) : Int))) (some (.int .i64 ((2 * t + 2 : Nat) : Int))) = some (.string (str [digit (b.toNat / 16), digit (b.toNat % 16)])) := fun get => by
        rw [slice_mid get H (2 * t) (2 * t + 2) (by omega) (by omega), show 2 * t + 2 - 2 * t = 2 by omega, hH, hexL_at q t b hb]
      obtain ⟨S, hS⟩ : ∃ S, S = str [digit (b.toNat / 16), digit (b.toNat % 16)] := ⟨_, rfl⟩
      have hpu := puint_spec (b.toNat / 16) (b.toNat % 16) hb16 hb16'
      have hlo := lowered_spec (b.toNat / 16) (b.toNat % 16) hb16 hb16'
      rw [← hS] at hsl hpu hlo
      have hbq : beqB S S = true := by rw [beqB_dec]; exact decide_eq_true rfl
      have hval : ((16 * (b.toNat / 16) + b.toNat % 16 : Nat) : Int) = (b.toNat : Int) := by omega
      rw [hval] at hpu
      have e8 : IntKind.u8.wrap (b.toNat : Int) = (b.toNat : Int) := u8_wrap (by omega) (by have := b.toNat_lt; omega)
      simp only [zZ, reduceIte, Nat.reduceLT, Int.reduceToNat, Int.reduceLE, Int.reduceEq, Int.reduceLT, Nat.reduceEqDiff, Nat.reduceAdd]
      refine CW_seq (CW_block (CW_seq (CW_region ?_)))
      simp only [zZ, reduceIte, Nat.reduceLT, Int.reduceToNat, Int.reduceLE, Int.reduceEq, Int.reduceLT, Nat.reduceEqDiff, Nat.reduceAdd, zMn, zHex]
      refine CW_seq (CW_region ?_)
      simp only [zZ, reduceIte, Nat.reduceLT, Int.reduceToNat, Int.reduceLE, Int.reduceEq, Int.reduceLT, Nat.reduceEqDiff, Nat.reduceAdd, zMn, zHex, m2, m3, hsl]
      refine ⟨by kernel_rfl, _, hpu _, ?_⟩
      rintro _ _ ⟨rfl, rfl⟩
      simp only [zZ, reduceIte, Nat.reduceLT, Int.reduceToNat, Int.reduceLE, Int.reduceEq, Int.reduceLT, Nat.reduceEqDiff, Nat.reduceAdd, zMn, zHex]
      refine CW_seq (CW_seq (CW_draw hmix 18 (by kernel_rfl) (by kernel_rfl) ?_))
      simp only [zZ, reduceIte, Nat.reduceLT, Int.reduceToNat, Int.reduceLE, Int.reduceEq, Int.reduceLT, Nat.reduceEqDiff, Nat.reduceAdd, zMn, zHex, m2, m3, hsl, neq_nil, hbq]
      refine ⟨by kernel_rfl, _, hlo _, ?_⟩
      refine ⟨by decide, ?_⟩
      simp only [zZ, reduceIte, Nat.reduceLT, Int.reduceToNat, Int.reduceLE, Int.reduceEq, Int.reduceLT, Nat.reduceEqDiff, Nat.reduceAdd, zMn, zHex, m2, m3, hsl, neq_nil, hbq]
      refine CW_cond false (by rfl) (fun h => by cases h) (fun _ => CW_skip ?_)
      simp only [zZ, reduceIte, Nat.reduceLT, Int.reduceToNat, Int.reduceLE, Int.reduceEq, Int.reduceLT, Nat.reduceEqDiff, Nat.reduceAdd]
      refine CW_region ?_
      have xi : IntKind.i64.wrap ((t : Int) + 1) = ((t + 1 : Nat) : Int) := by rw [wr (by omega) (by omega)]; omega
      have hx1 : q.take (t + 1) = q.take t ++ [b] := by rw [List.take_add_one, hb]; rfl
      have hx3 : bytesV (q.take t) ++ [.int .u8 (b.toNat : Int)] = bytesV (q.take (t + 1)) := by rw [hx1]; simp [bytesV, byteV]
      have hlb : (bytesV (q.take t)).length = t := by simp [bytesV]; omega
      rcases hV with ⟨rfl, rfl, rfl⟩ | ⟨ht0, rfl, rfl⟩
      · have ha : aAppend Tryz.prog (ext m [some (some (.cells false 1 [.int .u8 (b.toNat : Int)]))]) 44 44 (.slice none 0 0) (.slice (some ⟨m.size + 0, 0, none⟩) 1 1) =
            some (.slice (some ⟨m.size + 1, 0, none⟩) 1 1, ext m [some (some (.cells false 1 [.int .u8 (b.toNat : Int)])), some (some (.cells false 1 [.int .u8 (b.toNat : Int)]))]) :=
          bapp_nil Tryz.underlying44 inf_u8 u8_zero u8_size rfl m _ (src_block Tryz.underlying44 (by rw [ext_get]; rfl) rfl) (by decide) (by rw [u8_bytes]; decide) (by decide)
        simp only [zZ, reduceIte, Nat.reduceLT, Int.reduceToNat, Int.reduceLE, Int.reduceEq, Int.reduceLT, Nat.reduceEqDiff, Nat.reduceAdd, zMn, zHex, e8, new_u1, List.nil_append, List.length_nil, ha]
        refine CW_region ?_
        simp only [zZ, reduceIte, Nat.reduceLT, Int.reduceToNat, Int.reduceLE, Int.reduceEq, Int.reduceLT, Nat.reduceEqDiff, Nat.reduceAdd, zMn, zHex, xi]
        refine ⟨_, rfl, [1], [0, 6, 15, 16], rfl, ?_⟩
        simp only [zZ, reduceIte, Nat.reduceLT, Int.reduceToNat, Int.reduceLE, Int.reduceEq, Int.reduceLT, Nat.reduceEqDiff, Nat.reduceAdd, zG]
        exact ⟨n - 1, ⟨0 + 1, _, by omega, rfl, .inr ⟨by omega, rfl, by rw [← hx3]; rfl⟩⟩, by omega⟩
      · have ha : aAppend Tryz.prog (ext m [some (some (.cells false 1 (bytesV (q.take t)))), some (some (.cells false 1 [.int .u8 (b.toNat : Int)]))]) 44 44 (.slice (some ⟨m.size + 0, 0, none⟩) t t) (.slice (some ⟨m.size + 1, 0, none⟩) 1 1) =
            some (.slice (some ⟨m.size + 2, 0, none⟩) (t + 1) (t + 1), ext m [some none, some (some (.cells false 1 [.int .u8 (b.toNat : Int)])), some (some (.cells false 1 (bytesV (q.take t) ++ [.int .u8 (b.toNat : Int)])))]) :=
          bapp Tryz.underlying44 inf_u8 u8_zero u8_size rfl m _ (src_block Tryz.underlying44 (by rw [ext_get]; rfl) rfl) (by decide) rfl (by rw [hlb]; omega) (by rw [u8_bytes]; omega) (by omega)
        rw [hx3] at ha
        simp only [zZ, reduceIte, Nat.reduceLT, Int.reduceToNat, Int.reduceLE, Int.reduceEq, Int.reduceLT, Nat.reduceEqDiff, Nat.reduceAdd, zMn, zHex, e8, new_u1, List.cons_append, List.nil_append, List.length_cons, List.length_nil, ha]
        refine CW_region ?_
        simp only [zZ, reduceIte, Nat.reduceLT, Int.reduceToNat, Int.reduceLE, Int.reduceEq, Int.reduceLT, Nat.reduceEqDiff, Nat.reduceAdd, zMn, zHex, xi]
        refine ⟨_, rfl, [2], [0, 6, 15, 16], rfl, ?_⟩
        simp only [zZ, reduceIte, Nat.reduceLT, Int.reduceToNat, Int.reduceLE, Int.reduceEq, Int.reduceLT, Nat.reduceEqDiff, Nat.reduceAdd, zG, rb]
        exact ⟨n - 1, ⟨t + 1, _, by omega, rfl, .inr ⟨by omega, rfl, rfl⟩⟩, by omega⟩
    · have htl : t = N := by have := of_decide_eq_false h; omega
      subst htl
      simp only [zZ, reduceIte, Nat.reduceLT, Int.reduceToNat, Int.reduceLE, Int.reduceEq, Int.reduceLT, Nat.reduceEqDiff, Nat.reduceAdd]
      refine CW_seq (CW_region ?_)
      rcases hV with ⟨h0', rfl, rfl⟩ | ⟨ht0, rfl, rfl⟩
      · omega
      · simp only [zZ, reduceIte, Nat.reduceLT, Int.reduceToNat, Int.reduceLE, Int.reduceEq, Int.reduceLT, Nat.reduceEqDiff, Nat.reduceAdd, zMn, zHex]
        rw [to_str (ro := false) (st := 1) (l := q.take t) (by rw [ext_get]; rfl) (by rw [List.length_take]; omega)]
        simp only [zZ, reduceIte, Nat.reduceLT, Int.reduceToNat, Int.reduceLE, Int.reduceEq, Int.reduceLT, Nat.reduceEqDiff, Nat.reduceAdd, zMn, zHex]
        refine CW_ret ?_
        simp only [zZ, reduceIte, Nat.reduceLT, Int.reduceToNat, Int.reduceLE, Int.reduceEq, Int.reduceLT, Nat.reduceEqDiff, Nat.reduceAdd, zMn, zHex, bEnd, sAnswer, sAnswer.sRes]
        refine told_flat rfl ?_
        rw [List.take_of_length_le (by omega)]
end Go.Proofs.YtabffcplbjaklaaGreatDoor
namespace Go.Proofs.YtabffcplbjaklaaGreatDoor
open Go.RowKit Abs
theorem al_arr4 : nAlloc Tryz.prog 89 = some (.cells false (aStride Tryz.prog 89) [.int .i64 0, .int .i64 0, .int .i64 0, .int .i64 0]) := by kernel_rfl
theorem bld_Hdr (a b c d : Int) (s r t : ByteArray) : aBuild Tryz.prog 40 [(0, .int .i64 a), (2, .int .i64 b), (3, .int .i64 c), (4, .int .i64 d), (1, .string s), (5, .string r), (6, .string t)] = some (.agg #[.int .i64 a, .string s, .int .i64 b, .int .i64 c, .int .i64 d, .string r, .string t]) := by kernel_rfl
theorem hexV_full {l : List UInt8} (h : l ≠ []) : hexV l = hexL l := by unfold hexV; rw [if_neg h]
structure MayR (h : Header) : Prop where
  n : 0 ≤ h.n ∧ h.n ≤ 9999999999
  bytes : 0 ≤ h.bytes ∧ h.bytes ≤ 9999999999
  raw : 0 ≤ h.raw ∧ h.raw ≤ 9999999999
theorem mayR_of {h : Header} (hm : mayH h = true) : MayR h := by
  unfold mayH at hm
  simp only [Bool.and_eq_true, Bool.not_eq_true', decide_eq_false_iff_not, bne_eq_false_iff_eq, bsize_eq] at hm
  obtain ⟨⟨⟨⟨⟨⟨⟨⟨⟨h1, h2⟩, h3⟩, h4⟩, h5⟩, h6⟩, h7⟩, h8⟩, h9⟩, h10⟩ := hm
  exact ⟨⟨by omega, by omega⟩, ⟨by omega, by omega⟩, ⟨by omega, by omega⟩⟩
theorem mext_ext (b : Mem) (l k : List (Option (Option Blk))) : ext (ext b l) k = ext b (l ++ k) := by unfold ext; simp
def zeroH : List Value := [.int .i64 0, .string ⟨#[]⟩, .int .i64 0, .int .i64 0, .int .i64 0, .string ⟨#[]⟩, .string ⟨#[]⟩]
def arrV (h : Header) : Nat → List Value
  | 0 => [.int .i64 0, .int .i64 0, .int .i64 0, .int .i64 0]
  | 1 => [.int .i64 h.id, .int .i64 0, .int .i64 0, .int .i64 0]
  | 2 => [.int .i64 h.id, .int .i64 h.n, .int .i64 0, .int .i64 0]
  | 3 => [.int .i64 h.id, .int .i64 h.n, .int .i64 h.bytes, .int .i64 0]
  | _ => [.int .i64 h.id, .int .i64 h.n, .int .i64 h.bytes, .int .i64 h.raw]
set_option maxRecDepth 100000 in
set_option maxHeartbeats 4000000 in
theorem mread_spec (h : Header) (hm : mayH h = true) (m : Mem) :
    Abs.Spec Tryz.prog 31 [.string (str (lineV h))] m fun u M => u = .tuple #[.agg h.cells.toArray, .bool true] ∧ M = m := by
  refine Abs.Spec.walkB Tryz.func31 (by rfl) _ Tryz.results31 _ Tryz.ntmps31 (by simp) m [] (ext_nil m).symm 0 rfl (.inl rfl) ?_
  intro hc _
  have mb := may_of hm
  have mr := mayR_of hm
  have hal : nAlloc Tryz.prog 40 = some (.cells false (aStride Tryz.prog 40) zeroH) := al_Hdr
  have hal4 : nAlloc Tryz.prog 89 = some (.cells false (aStride Tryz.prog 89) (arrV h 0)) := al_arr4
  generalize aStride Tryz.prog 40 = s1 at hal
  generalize aStride Tryz.prog 89 = s4 at hal4
  have hlen : (lineV h).length ≤ 10000 := lineV_len h mb.idI mb.n mb.bytes mb.raw (by have := mb.salt; omega) (by have := mb.root; omega) (by have := mb.tag; omega)
  have zc32 : (⟨#[32]⟩ : ByteArray) = str [32] := rfl
  have hsp := msplit_spec (lineWords h) 32 (by simp [lineWords]) (words_free h 32 (.inr rfl)) (by show (lineV h).length ≤ _; omega)
  have hlv : Lib.join (lineWords h) [32] = lineV h := rfl
  have hl7 : (lineWords h).length = 7 := rfl
  rw [hlv, hl7] at hsp
  refine CW_seq (CW_region ?_)
  simp only [zZ, reduceIte, Nat.reduceLT, Int.reduceToNat, Int.reduceLE, Int.reduceEq, Int.reduceLT, Nat.reduceEqDiff, Nat.reduceAdd, zMn, hal]
  refine CW_seq (CW_region ?_)
  simp only [zZ, reduceIte, Nat.reduceLT, Int.reduceToNat, Int.reduceLE, Int.reduceEq, Int.reduceLT, Nat.reduceEqDiff, Nat.reduceAdd, zMn, zc32]
  refine ⟨by kernel_rfl, _, hsp _, ?_⟩
  rintro _ _ ⟨rfl, rfl⟩
  simp only [zZ, reduceIte, Nat.reduceLT, Int.reduceToNat, Int.reduceLE, Int.reduceEq, Int.reduceLT, Nat.reduceEqDiff, Nat.reduceAdd, zMn, mext_ext]
  refine CW_seq (CW_seq (CW_region ?_))
  have q7 : (((7 : Nat) : Int) != 7) = false := rfl
  have c7 : ((7 : Nat) : Int) = 7 := rfl
  simp only [zZ, reduceIte, Nat.reduceLT, Int.reduceToNat, Int.reduceLE, Int.reduceEq, Int.reduceLT, Nat.reduceEqDiff, Nat.reduceAdd, zMn, q7]
  refine CW_cond false (by rfl) (fun h => by cases h) (fun _ => CW_skip ?_)
  simp only [zZ, reduceIte, Nat.reduceLT, Int.reduceToNat, Int.reduceLE, Int.reduceEq, Int.reduceLT, Nat.reduceEqDiff, Nat.reduceAdd]
  refine CW_seq (CW_region ?_)
  simp only [zZ, reduceIte, Nat.reduceLT, Int.reduceToNat, Int.reduceLE, Int.reduceEq, Int.reduceLT, Nat.reduceEqDiff, Nat.reduceAdd, zMn, hal4]
  obtain ⟨W, hW⟩ : ∃ W, W = wC (lineWords h) := ⟨_, rfl⟩
  rw [← hW]
  have renW : ∀ (σ : Nat → Option Nat), renL (ren σ 4) W = some W := fun σ => renL_flat fun x hx => by
    rw [hW] at hx
    simp only [wC, List.mem_map] at hx
    obtain ⟨y, _, rfl⟩ := hx
    rfl
  have renA : ∀ (σ : Nat → Option Nat) (t : Nat), renL (ren σ 4) (arrV h t) = some (arrV h t) := fun σ t => renL_flat fun x hx => by
    unfold arrV at hx
    split at hx <;> (simp only [List.mem_cons, List.not_mem_nil, or_false] at hx; rcases hx with rfl | rfl | rfl | rfl <;> rfl)
  have renZ : ∀ (σ : Nat → Option Nat), renL (ren σ 4) zeroH = some zeroH := fun σ => renL_flat fun x hx => by
    simp only [zeroH, List.mem_cons, List.not_mem_nil, or_false] at hx
    rcases hx with rfl | rfl | rfl | rfl | rfl | rfl | rfl <;> rfl
  refine BW_mid hc (fun f l => f = [(0, .string (str (lineV h))), (2, .pointer (some ⟨m.size + 0, 0, none⟩)), (4, .slice (some ⟨m.size + 1, 0, none⟩) 7 7), (5, .pointer (some ⟨m.size + 2, 0, none⟩))] ∧ l = [some (some (.cells false s1 zeroH)), some (some (.cells false 1 W)), some (some (.cells false s4 (arrV h 4)))]) ?_ ?_
  · refine CW_seq (CW_region ?_)
    simp only [zZ, reduceIte, Nat.reduceLT, Int.reduceToNat, Int.reduceLE, Int.reduceEq, Int.reduceLT, Nat.reduceEqDiff, Nat.reduceAdd, zMn]
    refine CW_block (BW_loop hc (fun n f l => ∃ t : Nat, t + n = 4 ∧ f = [(0, .string (str (lineV h))), (2, .pointer (some ⟨m.size + 0, 0, none⟩)), (4, .slice (some ⟨m.size + 1, 0, none⟩) 7 7), (5, .pointer (some ⟨m.size + 2, 0, none⟩)), (22, .int .i64 (t : Nat))] ∧ l = [some (some (.cells false s1 zeroH)), some (some (.cells false 1 W)), some (some (.cells false s4 (arrV h t)))]) 4 ?_ ?_)
    · refine ⟨_, rfl, [0, 1, 2], [0, 2, 4, 5, 22], rfl, ?_⟩
      simp only [zZ, reduceIte, Nat.reduceLT, Int.reduceToNat, Int.reduceLE, Int.reduceEq, Int.reduceLT, Nat.reduceEqDiff, Nat.reduceAdd, zG, renW, renA, renZ]
      exact ⟨0, by omega, rfl, rfl⟩
    · rintro n f l ⟨t, htn, rfl, rfl⟩
      refine CW_seq (CW_region ?_)
      simp only [zZ, reduceIte, Nat.reduceLT, Int.reduceToNat, Int.reduceLE, Int.reduceEq, Int.reduceLT, Nat.reduceEqDiff, Nat.reduceAdd, zMn]
      refine CW_seq (CW_cond (decide ((t : Int) < 4)) (by rfl) (fun hq => CW_skip ?_) (fun hq => CW_exit ?_))
      · have h4 := of_decide_eq_true hq
        have ht : t = 0 ∨ t = 1 ∨ t = 2 ∨ t = 3 := by omega
        obtain ⟨v, hv0, hv1, hcell, hset, hlen4⟩ : ∃ v : Int, 0 ≤ v ∧ v ≤ 9999999999 ∧ W[t]? = some (.string (str (Lib.itoa v))) ∧ setL (arrV h t) t [.int .i64 v] = arrV h (t + 1) ∧ (arrV h t).length = 4 := by
          rcases ht with rfl | rfl | rfl | rfl
          · exact ⟨h.id, by have := mb.id; omega, by have := mb.id; omega, by rw [hW]; rfl, rfl, rfl⟩
          · exact ⟨h.n, mr.n.1, mr.n.2, by rw [hW]; rfl, rfl, rfl⟩
          · exact ⟨h.bytes, mr.bytes.1, mr.bytes.2, by rw [hW]; rfl, rfl, rfl⟩
          · exact ⟨h.raw, mr.raw.1, mr.raw.2, by rw [hW]; rfl, rfl, rfl⟩
        have z0 : (0 : Int) ≤ (t : Int) := by omega
        have z7 : (t : Int) < ((7 : Nat) : Int) := by omega
        have z4 : (t : Int) < ((4 : Nat) : Int) := by omega
        have hput : putIn 1 (ext m [some (some (.cells false s1 zeroH)), some (some (.cells false 1 W)), some (some (.cells false s4 (arrV h t)))]) (m.size + 2) t [.int .i64 v] (some (.cells false s4 (arrV h t))) = some (ext m [some (some (.cells false s1 zeroH)), some (some (.cells false 1 W)), some (some (.cells false s4 (arrV h (t + 1))))]) := by
          simp only [putIn]
          rw [if_pos ⟨rfl, by rw [hlen4]; show t + 1 ≤ 4; omega, rfl⟩, hset, ext_set]
          rfl
        have xi : IntKind.i64.wrap ((t : Int) + 1) = ((t + 1 : Nat) : Int) := by rw [wr (by omega) (by omega)]; omega
        simp only [zZ, reduceIte, Nat.reduceLT, Int.reduceToNat, Int.reduceLE, Int.reduceEq, Int.reduceLT, Nat.reduceEqDiff, Nat.reduceAdd]
        refine CW_seq (CW_block (CW_seq (CW_region ?_)))
        simp only [zZ, reduceIte, Nat.reduceLT, Int.reduceToNat, Int.reduceLE, Int.reduceEq, Int.reduceLT, Nat.reduceEqDiff, Nat.reduceAdd, zMn]
        refine CW_seq (CW_region ?_)
        simp only [zZ, reduceIte, Nat.reduceLT, Int.reduceToNat, Int.reduceLE, Int.reduceEq, Int.reduceLT, Nat.reduceEqDiff, Nat.reduceAdd, zMn, z0, z7, and_self, hcell]
        refine ⟨by kernel_rfl, _, matoi_spec v hv0 hv1 _, ?_⟩
        rintro _ _ ⟨rfl, rfl⟩
        simp only [zZ, reduceIte, Nat.reduceLT, Int.reduceToNat, Int.reduceLE, Int.reduceEq, Int.reduceLT, Nat.reduceEqDiff, Nat.reduceAdd, zMn]
        refine CW_seq (CW_seq (CW_region ?_))
        simp only [zZ, reduceIte, Nat.reduceLT, Int.reduceToNat, Int.reduceLE, Int.reduceEq, Int.reduceLT, Nat.reduceEqDiff, Nat.reduceAdd, zMn, neq_nil]
        refine CW_cond false (by rfl) (fun h => by cases h) (fun _ => CW_skip ?_)
        simp only [zZ, reduceIte, Nat.reduceLT, Int.reduceToNat, Int.reduceLE, Int.reduceEq, Int.reduceLT, Nat.reduceEqDiff, Nat.reduceAdd]
        refine CW_region ?_
        simp only [zZ, reduceIte, Nat.reduceLT, Int.reduceToNat, Int.reduceLE, Int.reduceEq, Int.reduceLT, Nat.reduceEqDiff, Nat.reduceAdd, zMn, z0, z4, and_self, Int.toNat_natCast, hput]
        refine CW_region ?_
        simp only [zZ, reduceIte, Nat.reduceLT, Int.reduceToNat, Int.reduceLE, Int.reduceEq, Int.reduceLT, Nat.reduceEqDiff, Nat.reduceAdd, zMn, xi]
        refine ⟨_, rfl, [0, 1, 2], [0, 2, 4, 5, 22], rfl, ?_⟩
        simp only [zZ, reduceIte, Nat.reduceLT, Int.reduceToNat, Int.reduceLE, Int.reduceEq, Int.reduceLT, Nat.reduceEqDiff, Nat.reduceAdd, zG, renW, renA, renZ]
        exact ⟨n - 1, ⟨t + 1, by omega, rfl, rfl⟩, by omega⟩
      · have h4 := of_decide_eq_false hq
        have ht : t = 4 := by omega
        subst ht
        refine ⟨_, rfl, [0, 1, 2], [0, 2, 4, 5], rfl, ?_⟩
        simp only [zZ, reduceIte, Nat.reduceLT, Int.reduceToNat, Int.reduceLE, Int.reduceEq, Int.reduceLT, Nat.reduceEqDiff, Nat.reduceAdd, zG, renW, renA, renZ]
        try exact ⟨rfl, rfl⟩
  · rintro f l ⟨rfl, rfl⟩
    have e4 : hexV h.salt.data.toList = hexL h.salt.data.toList := hexV_full fun e => by
      have := mb.salt
      have e2 : h.salt.data.toList.length = h.salt.size := rfl
      rw [e] at e2; simp at e2; omega
    have e5 : hexV h.root.data.toList = hexL h.root.data.toList := hexV_full fun e => by
      have := mb.root
      have e2 : h.root.data.toList.length = h.root.size := rfl
      rw [e] at e2; simp at e2; omega
    have e6 : hexV h.tag.data.toList = hexL h.tag.data.toList := hexV_full fun e => by
      have := mb.tag
      have e2 : h.tag.data.toList.length = h.tag.size := rfl
      rw [e] at e2; simp at e2; omega
    have g4 : W[4]? = some (.string (str (hexL h.salt.data.toList))) := by rw [hW, ← e4]; rfl
    have g5 : W[5]? = some (.string (str (hexL h.root.data.toList))) := by rw [hW, ← e5]; rfl
    have g6 : W[6]? = some (.string (str (hexL h.tag.data.toList))) := by rw [hW, ← e6]; rfl
    have s4' : (4 : Int) < ((7 : Nat) : Int) := by omega
    have s5' : (5 : Int) < ((7 : Nat) : Int) := by omega
    have s6' : (6 : Int) < ((7 : Nat) : Int) := by omega
    have u4 := munhex_spec h.salt.data.toList 16 mb.salt (by decide) (by decide)
    have u5 := munhex_spec h.root.data.toList 32 mb.root (by decide) (by decide)
    have u6 := munhex_spec h.tag.data.toList 32 mb.tag (by decide) (by decide)
    have k4 : str h.salt.data.toList = h.salt := rfl
    have k5 : str h.root.data.toList = h.root := rfl
    have k6 : str h.tag.data.toList = h.tag := rfl
    rw [k4] at u4
    rw [k5] at u5
    rw [k6] at u6
    refine CW_seq (CW_region ?_)
    simp only [zZ, reduceIte, Nat.reduceLT, Int.reduceToNat, Int.reduceLE, Int.reduceEq, Int.reduceLT, Nat.reduceEqDiff, Nat.reduceAdd, zMn, s4', and_self, g4]
    refine ⟨by kernel_rfl, _, u4 _, ?_⟩
    rintro _ _ ⟨rfl, rfl⟩
    simp only [zZ, reduceIte, Nat.reduceLT, Int.reduceToNat, Int.reduceLE, Int.reduceEq, Int.reduceLT, Nat.reduceEqDiff, Nat.reduceAdd, zMn]
    refine CW_seq (CW_region ?_)
    simp only [zZ, reduceIte, Nat.reduceLT, Int.reduceToNat, Int.reduceLE, Int.reduceEq, Int.reduceLT, Nat.reduceEqDiff, Nat.reduceAdd, zMn, s5', and_self, g5]
    refine ⟨by kernel_rfl, _, u5 _, ?_⟩
    rintro _ _ ⟨rfl, rfl⟩
    simp only [zZ, reduceIte, Nat.reduceLT, Int.reduceToNat, Int.reduceLE, Int.reduceEq, Int.reduceLT, Nat.reduceEqDiff, Nat.reduceAdd, zMn]
    refine CW_seq (CW_region ?_)
    simp only [zZ, reduceIte, Nat.reduceLT, Int.reduceToNat, Int.reduceLE, Int.reduceEq, Int.reduceLT, Nat.reduceEqDiff, Nat.reduceAdd, zMn, s6', and_self, g6]
    refine ⟨by kernel_rfl, _, u6 _, ?_⟩
    rintro _ _ ⟨rfl, rfl⟩
    simp only [zZ, reduceIte, Nat.reduceLT, Int.reduceToNat, Int.reduceLE, Int.reduceEq, Int.reduceLT, Nat.reduceEqDiff, Nat.reduceAdd, zMn]
    refine CW_seq (CW_region ?_)
    have i0 : (0 : Int) < ((4 : Nat) : Int) := by omega
    have i1 : (1 : Int) < ((4 : Nat) : Int) := by omega
    have i2 : (2 : Int) < ((4 : Nat) : Int) := by omega
    have i3 : (3 : Int) < ((4 : Nat) : Int) := by omega
    obtain ⟨A4, hA4⟩ : ∃ A4, A4 = arrV h 4 := ⟨_, rfl⟩
    have j0 : A4[0]? = some (.int .i64 h.id) := by rw [hA4]; rfl
    have j1 : A4[1]? = some (.int .i64 h.n) := by rw [hA4]; rfl
    have j2 : A4[2]? = some (.int .i64 h.bytes) := by rw [hA4]; rfl
    have j3 : A4[3]? = some (.int .i64 h.raw) := by rw [hA4]; rfl
    rw [← hA4]
    have hcl : [Value.int IntKind.i64 h.id, Value.string h.salt, Value.int IntKind.i64 h.n, Value.int IntKind.i64 h.bytes, Value.int IntKind.i64 h.raw, Value.string h.root, Value.string h.tag] = h.cells := rfl
    have hca : #[Value.int IntKind.i64 h.id, Value.string h.salt, Value.int IntKind.i64 h.n, Value.int IntKind.i64 h.bytes, Value.int IntKind.i64 h.raw, Value.string h.root, Value.string h.tag] = h.cells.toArray := rfl
    have hput7 : putIn 7 (ext m [some (some (.cells false s1 zeroH)), some (some (.cells false 1 W)), some (some (.cells false s4 A4)), some (some (.cells false s1 zeroH))]) (m.size + 3) 0 h.cells (some (.cells false s1 zeroH)) =
        some (ext m [some (some (.cells false s1 zeroH)), some (some (.cells false 1 W)), some (some (.cells false s4 A4)), some (some (.cells false s1 h.cells))]) := by
      simp only [putIn]
      rw [if_pos ⟨rfl, (show 0 + 7 ≤ 7 by decide), rfl⟩, ext_set]
      rfl
    have hput7' : putIn 7 (ext m [some (some (.cells false s1 zeroH)), some (some (.cells false 1 W)), some (some (.cells false s4 A4)), some (some (.cells false s1 h.cells))]) (m.size + 0) 0 h.cells (some (.cells false s1 zeroH)) =
        some (ext m [some (some (.cells false s1 h.cells)), some (some (.cells false 1 W)), some (some (.cells false s4 A4)), some (some (.cells false s1 h.cells))]) := by
      simp only [putIn]
      rw [if_pos ⟨rfl, (show 0 + 7 ≤ 7 by decide), rfl⟩, ext_set]
      rfl
    have rx : rowIn 7 0 (some (.cells false s1 h.cells)) = some (.agg h.cells.toArray) := rfl
    simp only [zZ, reduceIte, Nat.reduceLT, Int.reduceToNat, Int.reduceLE, Int.reduceEq, Int.reduceLT, Nat.reduceEqDiff, Nat.reduceAdd, zMn, i0, i1, i2, i3, and_self, j0, j1, j2, j3, bld_Hdr, hal, hcl, hput7]
    refine CW_seq (CW_draw7 hmix 19 [16, 17, 18] (by kernel_rfl) ?_)
    have hchk : Abs.Spec Tryz.prog 43 [.agg h.cells.toArray] (ext m [some (some (.cells false s1 zeroH)), some (some (.cells false 1 W)), some (some (.cells false s4 A4)), some (some (.cells false s1 h.cells))]) fun u M => u = .int .i64 0 ∧ M = ext m [some (some (.cells false s1 zeroH)), some (some (.cells false 1 W)), some (some (.cells false s4 A4)), some (some (.cells false s1 h.cells))] := by
      have := hcheck_spec h (ext m [some (some (.cells false s1 zeroH)), some (some (.cells false 1 W)), some (some (.cells false s4 A4)), some (some (.cells false s1 h.cells))])
      rw [hm] at this
      exact this
    have hln := line_spec h mb.idI mb.n mb.bytes mb.raw (by have := mb.salt; omega) (by have := mb.root; omega) (by have := mb.tag; omega)
    obtain ⟨S, hS⟩ : ∃ S, S = str (lineV h) := ⟨_, rfl⟩
    have hbq : beqB S S = true := by rw [beqB_dec]; exact decide_eq_true rfl
    have q0 : ((0 : Int) == 0) = true := rfl
    rw [← hS] at hln ⊢
    simp only [zZ, reduceIte, Nat.reduceLT, Int.reduceToNat, Int.reduceLE, Int.reduceEq, Int.reduceLT, Nat.reduceEqDiff, Nat.reduceAdd, zMn, rx]
    refine ⟨by kernel_rfl, _, hchk, ?_⟩
    refine ⟨by decide, ?_⟩
    simp only [zZ, reduceIte, Nat.reduceLT, Int.reduceToNat, Int.reduceLE, Int.reduceEq, Int.reduceLT, Nat.reduceEqDiff, Nat.reduceAdd, zMn, rx, q0]
    refine ⟨by kernel_rfl, _, hln _, ?_⟩
    refine ⟨by decide, ?_⟩
    simp only [zZ, reduceIte, Nat.reduceLT, Int.reduceToNat, Int.reduceLE, Int.reduceEq, Int.reduceLT, Nat.reduceEqDiff, Nat.reduceAdd, zMn, sQB7, idleOK7, Option.bind_some, rx, hbq, agg_cells, List.toList_toArray, hput7']
    refine ⟨⟨⟨_, rfl, rfl⟩, ⟨_, rfl, rfl⟩, ⟨_, rfl, rfl⟩⟩, ?_⟩
    refine CW_ret ?_
    simp only [zZ, reduceIte, Nat.reduceLT, Int.reduceToNat, Int.reduceLE, Int.reduceEq, Int.reduceLT, Nat.reduceEqDiff, Nat.reduceAdd, zMn, bEnd, sAnswer, sAnswer.sRes, aLoad_g, rx]
    exact told_flat (show flat 4 (.tuple #[.agg h.cells.toArray, .bool true]) = true from rfl) rfl
end Go.Proofs.YtabffcplbjaklaaGreatDoor
namespace Go.Proofs.YtabffcplbjaklaaGreatDoor.Abs
open Go Go.RowKit
theorem bld_size : (Tryz.prog.info? 46).map (·.size) = some 2 := by kernel_rfl
theorem bld_lies : liesAt Tryz.prog Tryz.prog.depth 46 (2 / Tryz.prog.cellsOf 46) 0 46 1 = true := by kernel_rfl
set_option maxHeartbeats 1000000 in
set_option maxRecDepth 100000 in
theorem copy_used (b : Nat) (w : World) (h0 : w.cell? ⟨b, 0, none⟩ = some (.pointer (some ⟨b, 0, none⟩))) :
    Calls Tryz.prog 44 #[.pointer (some ⟨b, 0, none⟩)] w fun e w' => e = .returned (.tuple #[]) ∧ w' = w := by
  obtain ⟨j, hj, _⟩ := Option.map_eq_some_iff.1 bld_size
  go_enter Tryz.func44, Tryz.ntmps44
  go_wp2
  rw [Lib.run_neq_ptr_same w _ Tryz.underlying43 hj]
  go_wp2
  go_end0
  exact ⟨rfl, rfl⟩
set_option maxHeartbeats 1000000 in
set_option maxRecDepth 100000 in
theorem copy_fresh (b : Nat) (w : World) (h0 : w.cell? ⟨b, 0, none⟩ = some (.pointer none)) (hsh : w.shape? b = some (46, 2)) (hfz : w.frozen? ⟨b, 0, none⟩ = false) :
    Calls Tryz.prog 44 #[.pointer (some ⟨b, 0, none⟩)] w fun e w' => e = .returned (.tuple #[]) ∧ w' = w.setCell ⟨b, 0, none⟩ (.pointer (some ⟨b, 0, none⟩)) := by
  obtain ⟨j, hj, hjs⟩ := Option.map_eq_some_iff.1 bld_size
  go_enter Tryz.func44, Tryz.ntmps44
  go_wp2
  rw [Lib.run_to_unsafe w ⟨b, 0, none⟩ Tryz.underlying43 Tryz.underlying93 hj (by rw [hjs]; decide) hsh (Nat.zero_lt_succ 1)]
  simp only [Result.andThen]
  rw [Oper.upon_value]
  go_wp2
  rw [run_callFunc_extern Tryz.func65 (by kernel_rfl) (by kernel_rfl) (by kernel_rfl) (e := Extern.AbiNoEscape.same) (by kernel_rfl)]
  rw [Lib.run_noEscape]
  simp only [Result.andThen]
  rw [Oper.upon_value]
  go_wp2
  rw [Lib.run_from_unsafe w ⟨b, 0, none⟩ Tryz.underlying93 Tryz.underlying43 hj hsh bld_lies]
  simp only [Result.andThen]
  rw [Oper.upon_value]
  go_wp2
  go_end0
  exact ⟨rfl, rfl⟩
def BufAt (K p : Nat) (M : Mem) (V : Value) (l : List UInt8) : Prop :=
  (l = [] ∧ V = .slice none 0 0) ∨ (l ≠ [] ∧ ∃ g rest, K ≤ g ∧ g ≠ p ∧ V = .slice (some ⟨g, 0, none⟩) l.length (l.length + rest.length) ∧ l.length + rest.length ≤ maxLen ∧ M.get g = some (.cells false bufS (bytesV l ++ rest)))
theorem bytesV_cells (s : ByteArray) : byteCells' s = bytesV s.data.toList := rfl
theorem bytesV_flat (l : List UInt8) : ∀ v ∈ bytesV l, flat 3 v = true := fun v hv => by
  unfold bytesV at hv
  rw [List.mem_map] at hv
  obtain ⟨x, _, rfl⟩ := hv
  rfl
theorem flats_self {n : Nat → Prop} {ι : Nat → Loc} {cs : List Value} (h : ∀ v ∈ cs, flat 3 v = true) : VRels n ι cs cs := ⟨rfl, fun i x y hx hy => by
  rw [hx] at hy; cases hy
  exact flat_rel 3 _ (h _ (List.mem_of_getElem? hx))⟩
theorem zeroB_list (n : Nat) : (Builtin.zeroCells (Value.int .u8 0).cells n).toList = List.replicate n (.int .u8 0) := by
  have e : (Value.int .u8 0).cells = #[.int .u8 0] := rfl
  rw [e]
  unfold Builtin.zeroCells
  apply List.ext_getElem?
  intro i
  simp only [Array.toList_map, Array.toList_range, List.getElem?_map, List.getElem?_replicate]
  by_cases hi : i < n
  · simp [hi, Nat.mod_one]
  · simp [hi]
theorem setL_tail (a r v : List Value) (h : v.length ≤ r.length) : setL (a ++ r) a.length v = a ++ v ++ r.drop v.length := by
  apply List.ext_getElem?
  intro i
  rw [setL_get _ _ _ _ (by rw [List.length_append]; omega)]
  by_cases h1 : i < a.length
  · rw [if_neg (by omega), List.append_assoc, List.getElem?_append_left h1, List.getElem?_append_left h1]
  · by_cases h2 : i < a.length + v.length
    · rw [if_pos (by omega), List.append_assoc, List.getElem?_append_right (by omega), List.getElem?_append_left (by omega)]
    · rw [if_neg (by omega), List.append_assoc, List.getElem?_append_right (by omega), List.getElem?_append_right (by omega), List.getElem?_append_right (by omega), List.getElem?_drop]
      congr 1; omega
section
variable {P : Program} {ι : Nat → Loc} {M : Mem} {w : World} {t tx ty e : TypeId} {i : TypeInfo}
theorem bufNew (h : Rel ι M w) (hbt : bufT = some e) {K p cap : Nat} {l : List UInt8} {C : Array Value} (hK : K ≤ M.size) (hp : p < M.size) (hl0 : l ≠ []) (hcap : l.length ≤ cap) (hmx : cap ≤ maxLen)
    (hC : C.toList = bytesV l ++ List.replicate (cap - l.length) (.int .u8 0)) :
    ∃ κ M' V2, VRel M'.Has κ V2 (.slice (some ⟨w.heap.size, 0, none⟩) l.length cap) ∧ Rel κ M' (w.drew.alloc (.cells C e)) ∧ Step ι M w κ M' (w.drew.alloc (.cells C e)) ∧ BufAt K p M' V2 l ∧
      (∀ b x, (b < K ∨ b = p) → M.get b = some x → M'.get b = some x) ∧ (∀ b st cs, M.get b = some (.cells true st cs) → M'.get b = some (.cells true st cs)) ∧ M.size ≤ M'.size := by
  have hfl : ∀ v ∈ C.toList, flat 3 v = true := fun v hv => by
    rw [hC, List.mem_append] at hv
    rcases hv with hv | hv
    · exact bytesV_flat _ v hv
    · rw [(List.mem_replicate.1 hv).2]; rfl
  have hone : oneAll C.toList = true := by
    simp only [oneAll, List.all_eq_true]
    intro v hv
    rw [hC, List.mem_append] at hv
    rcases hv with hv | hv
    · unfold bytesV at hv
      rw [List.mem_map] at hv
      obtain ⟨x, _, rfl⟩ := hv
      rfl
    · rw [(List.mem_replicate.1 hv).2]; rfl
  have hCs : C.size = cap := by
    have := congrArg List.length hC
    rw [Array.length_toList, List.length_append, List.length_replicate] at this
    have hb : (bytesV l).length = l.length := by simp [bytesV]
    omega
  obtain ⟨hR, hS⟩ := h.newCells (cs := C.toList) (rest := []) (OneMore.drewAlloc w (.cells C e)) bufS (flats_self hfl).whole (by simp) hone (.inl rfl)
    ⟨fun h0 => absurd h0 (by decide), fun _ _ _ => ⟨hbt, rfl, by rw [hCs]; unfold maxLen at hmx; unfold bufS; omega⟩⟩
  refine ⟨_, _, .slice (some ⟨M.size, 0, none⟩) l.length cap, newSlice _ ⟨w.heap.size, 0, _, bufS⟩ _ _ _ hcap (.inl rfl), hR, hS, .inr ⟨hl0, M.size, List.replicate (cap - l.length) (.int .u8 0), hK, by omega, ?_, ?_, ?_⟩, ?_, ?_, ?_⟩
  · rw [List.length_replicate]; congr 1; omega
  · rw [List.length_replicate]; omega
  · rw [Mem.get_push_new, hC]
  · intro b x _ hb
    rw [Mem.get_push_old (Mem.get_lt hb)]; exact hb
  · intro b st cs hb
    rw [Mem.get_push_old (Mem.get_lt hb)]; exact hb
  · rw [Mem.size_push]; omega
theorem bufApp_run (h : Rel ι M w) (ht : P.underlying t = some (.slice e)) (hx : P.underlying tx = some .string) (hbt : bufT = some e) (hi : P.info? e = some i) (hz : i.zero = some (.int .u8 0)) (hs : i.size = 1) (hb : i.bytes = 1)
    {K p : Nat} {V V' : Value} {l : List UInt8} (hK : K ≤ M.size) (hp : p < M.size) (hV : BufAt K p M V l) (hVV : VRel M.Has ι V V') (s : ByteArray) (hlen : l.length + s.size ≤ 140737488355328) :
    ∃ v' w' κ M' V2, (Builtin.append_ #[t, tx] ty #[V', .string s]).run P w = .ok v' w' ∧ VRel M'.Has κ V2 v' ∧ Rel κ M' w' ∧ Step ι M w κ M' w' ∧ BufAt K p M' V2 (l ++ s.data.toList) ∧
      (∀ b x, (b < K ∨ b = p) → M.get b = some x → M'.get b = some x) ∧ (∀ b st cs, M.get b = some (.cells true st cs) → M'.get b = some (.cells true st cs)) ∧ M.size ≤ M'.size := by
  have hsrc : Src P i.size tx (.string s) s.size (byteCells' s) w := by rw [hs]; exact Src.ofString w hx s
  have hsl : (byteCells' s).length = s.size := byteCells'_length s
  have hz1 : (Value.int .u8 0).cells.toList.length = i.size := by rw [hs]; rfl
  have hsd : s.data.toList.length = s.size := by simp
  have hbl : (bytesV l).length = l.length := by simp [bytesV]
  by_cases hn : s.size = 0
  · -- nothing
    have hs0 : s.data.toList = [] := List.eq_nil_of_length_eq_zero (by omega)
    refine ⟨V', w, ι, M, V, ?_, hVV, h, Step.refl _ _ _, by rw [hs0, List.append_nil]; exact hV, fun _ _ _ h => h, fun _ _ _ h => h, Nat.le_refl _⟩
    have hus : byteCells' s = [] := List.eq_nil_of_length_eq_zero (by omega)
    rw [hus, hn] at hsrc
    rcases hV with ⟨_, rfl⟩ | ⟨_, g, rest, _, _, rfl, _⟩
    · cases hVV
      rcases hsrc.kind with ⟨e', hk⟩ | hk <;> simp [Builtin.append_, run_underlying ht, run_underlying hk, run_sizeOf' hi, hsrc.len, hsrc.cells]
    · have hsame : ∀ (a : Addr) (k cap' : Nat), k ≤ cap' → (Builtin.append_ #[t, tx] ty #[.slice (some a) k cap', .string s]).run P w = .ok (.slice (some a) k cap') w := by
        intro a k cap' hle
        rcases hsrc.kind with ⟨e', hk⟩ | hk <;> simp [Builtin.append_, run_underlying ht, run_underlying hk, run_sizeOf' hi, hsrc.len, hsrc.cells, hle, storeCells]
      generalize l.length = k at hVV
      generalize k + rest.length = c at hVV
      cases hVV with
      | slice _ _ _ _ cap' hlt hl hc => exact hsame _ _ _ (by rcases hc with hc | hc <;> omega)
      | empty _ _ o' hlt => exact hsame _ _ _ (Nat.le_refl _)
  have hne : l ++ s.data.toList ≠ [] := by
    intro h0
    have := congrArg List.length h0
    rw [List.length_append, hsd, List.length_nil] at this
    omega
  have hall : (l ++ s.data.toList).length = l.length + s.size := by rw [List.length_append, hsd]
  have hbv : bytesV (l ++ s.data.toList) = bytesV l ++ byteCells' s := by rw [bytesV_cells]; simp [bytesV]
  rcases hV with ⟨rfl, rfl⟩ | ⟨hl0, g, rest, hKg, hgp, rfl, hcm, hg⟩
  · cases hVV
    have hg := run_append_grow_src (P := P) w t tx ty e i _ ht hi hz none 0 0 [] (run_firstCells_none w.drew i.size 0 0 0) (.string s) s.size (byteCells' s) hsrc (by omega) (by omega) (growslice_fits (by omega) (by rw [hb]; simp only [List.length_nil] at hlen; omega))
    rw [Nat.zero_add] at hg
    have hmx := grownCap_le_maxLen w s.size 0 e (by simp only [maxLen]; omega)
    have hge := grownCap_ge w s.size 0 e
    generalize grownCap w s.size 0 e = cap at hg hmx hge
    obtain ⟨κ, M', V2, g1, g2⟩ := bufNew h hbt (K := K) (p := p) (cap := cap) (l := s.data.toList) (C := ([] ++ byteCells' s).toArray ++ Builtin.zeroCells (Value.int .u8 0).cells (cap - s.size)) hK hp (by simpa using hne) (by omega) hmx
      (by rw [Array.toList_append, zeroB_list, hsd]; rfl)
    rw [hsd] at g1
    exact ⟨_, _, κ, M', V2, hg, g1, g2⟩
  · obtain ⟨C, eC, fz, hC, hsz, hst, hlen', hv, hfz⟩ := h.at' g false bufS _ hg
    have hcl : (bytesV l ++ rest).length = l.length + rest.length := by rw [List.length_append, hbl]
    have hl1 : 0 < l.length := List.length_pos_iff.2 hl0
    obtain ⟨t1, t2, t3⟩ := hst.tag.2 rfl (by omega) (by rw [hcl]; unfold maxLen at hcm; unfold bufS; omega)
    have hol := (VRels.toL hlen' fun j v hi => (hv j v hi).2)
    have hstr := hst.eq
    generalize hkk : l.length = k at *
    generalize hcc : k + rest.length = c at *
    cases hVV with
    | empty _ _ o' hlt => omega
    | slice _ _ _ _ cap' hlt hl hc =>
      have hcap : cap' = c := by
        rcases hc with hc | ⟨hc1, hc2, _⟩
        · exact hc
        · exfalso
          rw [hstr] at hc2
          have : 1 * bufS ≤ cap' * bufS := Nat.mul_le_mul_right _ (by omega)
          omega
      subst hcap
      by_cases hroom : k + s.size ≤ cap'
      · have hw := h.write hg k (byteCells' s) (byteCells' s) (by rw [hcl, hsl]; omega) (oneAll_spec (byteCells'_one s)) (byteCells'_rel s _)
        have hset : setL (bytesV l ++ rest) k (byteCells' s) = bytesV (l ++ s.data.toList) ++ rest.drop s.size := by
          have := setL_tail (bytesV l) rest (byteCells' s) (by rw [hsl]; omega)
          rw [hbl] at this
          rw [this, hbv, hsl]
        rw [hset] at hw
        have hrun := run_append_room_src (P := P) w t tx ty e i ht hi (ι g).blk ((ι g).base + 0) k cap' (.string s) s.size (byteCells' s) hsrc hroom
          (fun j hj => by rw [hs, Nat.mul_one, cell_of_block hC]; simp; omega) (fun j hj => by rw [hs, Nat.mul_one]; exact frozen_of_block hC (hfz rfl _ (by omega)))
        rw [hs, Nat.mul_one, Nat.add_zero] at hrun
        refine ⟨_, _, ι, _, .slice (some ⟨g, 0, none⟩) (k + s.size) cap', hrun, .slice g 0 (k + s.size) cap' cap' (Mem.has_set _ hlt) hroom (.inl rfl), hw.1, hw.2, .inr ⟨hne, g, rest.drop s.size, hKg, hgp, ?_, ?_, Mem.get_set_same hg _⟩, ?_, ?_, ?_⟩
        · rw [hall, List.length_drop]; congr 1; omega
        · rw [hall, List.length_drop]; omega
        · intro b x hbk hbx
          rw [Mem.get_set_ne (by rintro rfl; rcases hbk with hbk | hbk <;> omega)]; exact hbx
        · intro b st cs hbx
          rw [Mem.get_set_ne (by rintro rfl; rw [hg] at hbx; cases hbx)]; exact hbx
        · rw [Mem.size_set]; exact Nat.le_refl _
      · have hcell : ∀ j u, (bytesV l)[j]? = some u → w.cell? ((⟨(ι g).blk, (ι g).base + 0, none⟩ : Addr).add j) = some u := by
          intro j u hj
          have hjl := (List.getElem?_eq_some_iff.1 hj).1
          obtain ⟨_, u', h8, h9⟩ := hv j u (by rw [List.getElem?_append_left hjl]; exact hj)
          have := flat_eq 3 _ _ (bytesV_flat l u (List.mem_of_getElem? hj)) h9
          subst this
          rw [Addr_add, cell_of_block hC, Nat.add_zero]
          exact h8
        have hg2 := run_append_grow_src (P := P) w t tx ty e i _ ht hi hz (some ⟨(ι g).blk, (ι g).base + 0, none⟩) k cap' (bytesV l) (run_firstCells_some w.drew i.size k _ k cap' (bytesV l) (by rw [hs, hbl, Nat.mul_one]) hcell) (.string s) s.size (byteCells' s) hsrc (by omega) (by omega) (growslice_fits (by omega) (by rw [hb]; omega))
        have hmx := grownCap_le_maxLen w (k + s.size) cap' e (by simp only [maxLen]; omega)
        have hge := grownCap_ge w (k + s.size) cap' e
        generalize grownCap w (k + s.size) cap' e = cap at hg2 hmx hge
        obtain ⟨κ, M', V2, g1, g2⟩ := bufNew h hbt (K := K) (p := p) (cap := cap) (l := l ++ s.data.toList) (C := (bytesV l ++ byteCells' s).toArray ++ Builtin.zeroCells (Value.int .u8 0).cells (cap - (k + s.size))) hK hp hne (by omega) hmx
          (by rw [Array.toList_append, zeroB_list, hall, hbv])
        rw [hall] at g1
        exact ⟨_, _, κ, M', V2, hg2, g1, g2⟩
end
def BAt (K : Nat) (M : Mem) (p : Nat) (l : List UInt8) : Prop :=
  K ≤ p ∧ ∃ a V, M.get p = some (.cells false 0 [a, V]) ∧ (a = .pointer none ∨ a = .pointer (some ⟨p, 0, none⟩)) ∧ BufAt K p M V l
theorem inf_byte : Tryz.prog.info? 5 = some Tryz.t5 := by kernel_rfl
theorem wpList_append_run {P : Program} {w : World} {ops : Array Oper} {rest : List Oper} {o : Oper} {a : Act} {Q : Exit → Act → World → Prop} (hgd : o.guard = none) (d s : Operand) (dT sT : TypeId)
    (ho : o.op = .call { callee := .builtin .append, args := #[d, s], argTypes := #[dT, sT] }) (x y v : Value) (w' : World) (hd : a.eval d = x) (hs : a.eval s = y)
    (hr : (Builtin.append_ #[dT, sT] o.type #[x, y]).run P w = .ok v w') (h : wpList P ops Q rest (a.put o.dst v) w') : wpList P ops Q (o :: rest) a w := by
  refine wpList_plain hgd fun K hK => ?_
  unfold Oper.wp execOp
  simp only [ho, resolve, invoke, builtin, Sem.run_bind, Sem.run_pure, Result.andThen_ok, List.map_toArray, List.map_cons, List.map_nil, hd, hs, hr]
  exact hK _ _ h
set_option maxHeartbeats 1000000 in
set_option maxRecDepth 100000 in
theorem ws_walk (P0 : Nat) (s : ByteArray) (w w1 w2 : World) (V' v' old : Value) (hsl : ∃ a n c, v' = .slice a n c)
    (hcc : Calls Tryz.prog 44 #[.pointer (some ⟨P0, 0, none⟩)] w (fun e w' => e = .returned (.tuple #[]) ∧ w' = w1))
    (c1 : w1.cell? ⟨P0, 1, none⟩ = some V') (a1 : (Builtin.append_ #[44, 9] 44 #[V', .string s]).run Tryz.prog w1 = .ok v' w2)
    (d1 : w2.cell? ⟨P0, 1, none⟩ = some old) (f1 : w2.frozen? ⟨P0, 1, none⟩ = false) :
    Calls Tryz.prog 17 #[.pointer (some ⟨P0, 0, none⟩), .string s] w fun e w' => e = .returned (.tuple #[.int .i64 s.size, .nilIface]) ∧ w' = w2.setCell ⟨P0, 1, none⟩ v' := by
  obtain ⟨va, vn, vc, rfl⟩ := hsl
  go_enter Tryz.func17, Tryz.ntmps17
  go_wp2_with fail
  refine hcc.mono ?_
  rintro e w' ⟨rfl, rfl⟩
  go_wp2_with (at_builtin; refine wpList_append_run rfl (.tmp 12) (.tmp 13) 44 9 rfl _ _ _ _ rfl rfl a1 ?_)
  clear a1 hcc c1
  go_wp2
  go_ret2
  exact ⟨rfl, rfl⟩
set_option maxHeartbeats 2000000 in
set_option maxRecDepth 100000 in
theorem ws_spec (K p : Nat) (M : Mem) (l : List UInt8) (s : ByteArray) (hB : BAt K M p l) (hlen : l.length + s.size ≤ 140737488355328) :
    Spec Tryz.prog 17 [.pointer (some ⟨p, 0, none⟩), .string s] M fun u M' => u = .tuple #[.int .i64 s.size, .nilIface] ∧ BAt K M' p (l ++ s.data.toList) ∧ Keeps K M M' ∧ M.size ≤ M'.size := by
  intro ι w ys hy hr
  obtain ⟨y0, y1, rfl, h0, h1⟩ := vrels_two hy
  cases h1
  obtain ⟨hKp, a, V, hg, ha, hV⟩ := hB
  obtain ⟨C, e, fz, hC, hsz, hst, hlen', hv, hfz⟩ := hr.at' p false 0 _ hg
  have hpl := Mem.get_lt hg
  obtain ⟨t1, t2, t3⟩ := hst.tag.1 rfl (by simp)
  have te : e = 46 := by
    have : tagT = some 46 := rfl
    rw [this] at t1; cases t1; rfl
  subst te
  obtain ⟨P0, hP0⟩ : ∃ P0, P0 = (ι p).blk := ⟨_, rfl⟩
  have hy0 : y0 = .pointer (some ⟨P0, 0, none⟩) := by
    cases h0
    rw [t2, hP0]
  subst hy0
  obtain ⟨o1, a', b1, b2⟩ := hv 0 a rfl
  obtain ⟨o2, V', b3, b4⟩ := hv 1 V rfl
  rw [t2, Nat.zero_add] at b1 b3
  have C2 : C.size = 2 := t3
  rw [← hP0] at hC
  have c0 : w.cell? ⟨P0, 0, none⟩ = some a' := by rw [cell_of_block hC]; exact b1
  have c1 : w.cell? ⟨P0, 1, none⟩ = some V' := by rw [cell_of_block hC]; exact b3
  -- behind copyCheck
  obtain ⟨w1, hcc, hM1⟩ : ∃ w1, Calls Tryz.prog 44 #[.pointer (some ⟨P0, 0, none⟩)] w (fun e w' => e = .returned (.tuple #[]) ∧ w' = w1) ∧
      ∃ M1, Rel ι M1 w1 ∧ Step ι M w ι M1 w1 ∧ M1.get p = some (.cells false 0 [.pointer (some ⟨p, 0, none⟩), V]) ∧ (∀ b x, b ≠ p → M.get b = some x → M1.get b = some x) ∧ M1.size = M.size ∧ w1.cell? ⟨P0, 1, none⟩ = some V' := by
    rcases ha with rfl | rfl
    · cases b2
      have hsh : w.shape? P0 = some (46, 2) := by simp [World.shape?, hC, C2]
      have hf0 : w.frozen? ⟨P0, 0, none⟩ = false := frozen_of_block hC (hfz rfl 0 (by omega))
      have hself : VRel M.Has ι (.pointer (some ⟨p, 0, none⟩)) (.pointer (some ⟨P0, 0, none⟩)) := h0
      obtain ⟨k1, k2⟩ := hr.write hg 0 [.pointer (some ⟨p, 0, none⟩)] [.pointer (some ⟨P0, 0, none⟩)] (by simp) (by simp [Value.oneCell']) (.cons hself .nil)
      rw [t2, ← hP0] at k1 k2
      refine ⟨_, copy_fresh P0 w c0 hsh hf0, _, k1, k2, Mem.get_set_same hg _, fun b x hb hx => by rw [Mem.get_set_ne (Ne.symm hb)]; exact hx, Mem.size_set .., ?_⟩
      have := heap_setCells [.pointer (some ⟨P0, 0, none⟩)] w P0 0 C _ fz hC
      rw [show w.setCells P0 0 [.pointer (some ⟨P0, 0, none⟩)] = w.setCell ⟨P0, 0, none⟩ (.pointer (some ⟨P0, 0, none⟩)) from rfl] at this
      rw [cell_of_block this]
      simp only [setA]
      rw [Array.getElem?_setIfInBounds_ne (by decide)]
      exact b3
    · cases b2
      rw [← hP0, t2] at c0
      exact ⟨w, copy_used P0 w c0, M, hr, Step.refl _ _ _, hg, fun b x _ hx => hx, rfl, c1⟩
  obtain ⟨M1, hr1, hs1, hg1, hk1, hz1, c1'⟩ := hM1
  have hV1 : BufAt K p M1 V l := by
    rcases hV with ⟨h1, h2⟩ | ⟨h1, g, rest, h2, h3, h4, h5, h6⟩
    · exact .inl ⟨h1, h2⟩
    · exact .inr ⟨h1, g, rest, h2, h3, h4, h5, hk1 g _ h3 h6⟩
  have hVV : VRel M1.Has ι V V' := b4.mono hs1.grows fun _ _ => rfl
  obtain ⟨v', w2, κ, M2, V2, a1, a2, a3, a4, a5, a6, a7, a8⟩ := bufApp_run (P := Tryz.prog) (t := 44) (tx := 9) (ty := 44) (i := Tryz.t5) hr1 Tryz.underlying44 Tryz.underlying9 rfl inf_byte rfl rfl rfl (K := K) (p := p) (by omega) (by omega) hV1 hVV s hlen
  have hg2 := a6 p _ (.inr rfl) hg1
  obtain ⟨D, e2, fz2, hD, hDs, hDt, hDl, hDv, hDf⟩ := a3.at' p false 0 _ hg2
  have eκ : κ p = ι p := a4.at_ p (Mem.get_has hg1)
  rw [eκ, ← hP0] at hD
  rw [eκ, t2, Nat.zero_add] at hDl
  have hD2 : 2 ≤ D.size := by simpa using hDl
  have f1 : w2.frozen? ⟨P0, 1, none⟩ = false := frozen_of_block hD (hDf rfl 1 (by omega))
  have d1 : w2.cell? ⟨P0, 1, none⟩ = some (D[1]'(by omega)) := by rw [cell_of_block hD]; exact Array.getElem?_eq_getElem _
  generalize D[1]'(by omega) = old at d1
  have hone : V2.oneCell' = true := by
    rcases a5 with ⟨_, rfl⟩ | ⟨_, g, rest, _, _, rfl, _⟩ <;> rfl
  obtain ⟨k1, k2⟩ := a3.write hg2 1 [V2] [v'] (by simp) (by simpa using hone) (.cons a2 .nil)
  rw [eκ, t2, ← hP0] at k1 k2
  have hvs : ∃ a n c, v' = .slice a n c := by
    rcases a5 with ⟨_, rfl⟩ | ⟨_, g, rest, _, _, rfl, _⟩
    · cases a2; exact ⟨_, _, _, rfl⟩
    · generalize (l ++ s.data.toList).length = k at a2
      generalize k + rest.length = c at a2
      cases a2 <;> exact ⟨_, _, _, rfl⟩
  refine Calls.mono (R := fun e w' => e = .returned (.tuple #[.int .i64 s.size, .nilIface]) ∧ w' = w2.setCell ⟨P0, 1, none⟩ v') ?_ ?_
  · exact ws_walk P0 s w w1 w2 V' v' old hvs hcc c1' a1 d1 f1
  · rintro e w' ⟨rfl, rfl⟩
    refine ⟨.tuple #[.int .i64 s.size, .nilIface], _, κ, _, ⟨rfl, ⟨hKp, _, V2, Mem.get_set_same hg2 _, .inr rfl, ?_⟩, ⟨fun b x hb hx => ?_, fun b st cs hx => ?_⟩, ?_⟩, rfl, flat_rel 3 _ rfl, k1, (hs1.trans a4).trans k2⟩
    · rcases a5 with ⟨h1, h2⟩ | ⟨h1, g, rest, h2, h3, h4, h5, h6⟩
      · exact .inl ⟨h1, h2⟩
      · exact .inr ⟨h1, g, rest, h2, h3, h4, h5, by rw [Mem.get_set_ne (Ne.symm h3)]; exact h6⟩
    · rw [Mem.get_set_ne (by omega)]
      exact a6 b x (.inl hb) (hk1 b x (by omega) hx)
    · have hbp : b ≠ p := by rintro rfl; rw [hg] at hx; cases hx
      rw [Mem.get_set_ne (Ne.symm hbp)]
      exact a7 b st cs (hk1 b _ hbp hx)
    · rw [Mem.size_set]; omega
set_option maxHeartbeats 2000000 in
set_option maxRecDepth 100000 in
theorem bstr_walk (P0 : Nat) (w : World) (V' : Value) (q : Option Addr) (n cap : Nat) (s : ByteArray) (w' : World) (hV : V' = .slice q n cap) (c1 : w.drew.cell? ⟨P0, 1, none⟩ = some (.slice q n cap)) (r : Option Addr)
    (hSD : (Builtin.unsafeSliceData_ #[44] 76 #[.slice q n cap]).run Tryz.prog w.drew = .ok (.pointer r) w.drew)
    (hUS : (Builtin.unsafeString_ #[76, 3] 9 #[.pointer r, .int .i64 n]).run Tryz.prog w.drew = .ok (.string s) w') :
    Calls Tryz.prog 19 #[.pointer (some ⟨P0, 0, none⟩)] w fun e w2 => e = .returned (.string s) ∧ w2 = w' := by
  go_enter Tryz.func19, Tryz.ntmps19
  go_wp2
  go_region
  all_goals (go_wp2; go_ret; exact ⟨rfl, rfl⟩)
theorem freeze_heap_ne (w : World) (a : Addr) (n k : Nat) (h : k ≠ a.block) : (w.freeze a n).heap[k]? = w.heap[k]? := by
  unfold World.freeze
  split
  · rfl
  · simp only [Array.getElem?_modify]
    rw [if_neg (Ne.symm h)]
theorem freeze_rest (w : World) (a : Addr) (n : Nat) : (w.freeze a n).heap.size = w.heap.size ∧ (w.freeze a n).os = w.os ∧ (w.freeze a n).tape = w.tape ∧ (w.freeze a n).output = w.output := by
  unfold World.freeze
  split
  · exact ⟨rfl, rfl, rfl, rfl⟩
  · exact ⟨by simp, rfl, rfl, rfl⟩
end Go.Proofs.YtabffcplbjaklaaGreatDoor.Abs
namespace Go.Proofs.YtabffcplbjaklaaGreatDoor.Abs
open Go Go.RowKit
def BRaw (K p : Nat) (M : Mem) (l : List UInt8) : Prop :=
  K ≤ p ∧ ∃ a V, M.get p = some (.cells false 0 [a, V]) ∧ ((l = [] ∧ V = .slice none 0 0) ∨ (l ≠ [] ∧ ∃ g c C hi, K ≤ g ∧ g ≠ p ∧ V = .slice (some ⟨g, 0, none⟩) l.length c ∧ l.length ≤ c ∧ l.length ≤ maxLen ∧ l.length ≤ hi ∧
    (∀ (j : Nat) (x : UInt8), l[j]? = some x → C[j]? = some (Value.int .u8 x.toNat)) ∧ M.get g = some (.raw false C 5 0 hi)))
theorem freeze_row (w : World) (b n : Nat) (hn : n ≠ 0) (C : Array Value) (e : TypeId) (fz : Nat × Nat) (h : w.heap[b]? = some (.cells C e fz)) :
    ∃ hi, n ≤ hi ∧ (w.freeze ⟨b, 0, none⟩ n).heap[b]? = some (.cells C e (0, hi)) := by
  unfold World.freeze
  rw [if_neg hn]
  simp only [Array.getElem?_modify, if_true, h, Option.map_some]
  obtain ⟨lo, hi⟩ := fz
  by_cases e1 : (lo == hi) = true
  · exact ⟨n, Nat.le_refl _, by simp [e1]⟩
  · exact ⟨max hi n, by omega, by simp [e1]⟩
theorem freeze_again (w : World) (b n : Nat) (C : Array Value) (e : TypeId) (hi : Nat) (hn : n ≠ 0) (hh : n ≤ hi) (h : w.heap[b]? = some (.cells C e (0, hi))) :
    (w.freeze ⟨b, 0, none⟩ n).heap = w.heap := by
  unfold World.freeze
  rw [if_neg hn]
  apply Array.ext_getElem?
  intro k
  simp only [Array.getElem?_modify]
  by_cases e1 : b = k
  · subst e1
    rw [if_pos rfl, h, Option.map_some]
    have e2 : ¬ (0 == hi) = true := by simp; omega
    simp [e2]
    omega
  · rw [if_neg e1]
set_option maxHeartbeats 2000000 in
set_option maxRecDepth 100000 in
theorem bstr1_spec (K p : Nat) (M : Mem) (l : List UInt8) (hB : BAt K M p l) :
    Spec Tryz.prog 19 [.pointer (some ⟨p, 0, none⟩)] M fun u M' => u = .string (str l) ∧ Keeps K M M' ∧ BRaw K p M' l := by
  intro ι w ys hy hr
  obtain ⟨y0, rfl, h0⟩ := vrels_one hy
  obtain ⟨hKp, a, V, hg, ha, hV⟩ := hB
  obtain ⟨C, e, fz, hC, hsz, hst, hlen', hv, hfz⟩ := hr.at' p false 0 _ hg
  obtain ⟨t1, t2, t3⟩ := hst.tag.1 rfl (by simp)
  obtain ⟨P0, hP0⟩ : ∃ P0, P0 = (ι p).blk := ⟨_, rfl⟩
  have hy0 : y0 = .pointer (some ⟨P0, 0, none⟩) := by
    cases h0
    rw [t2, hP0]
  subst hy0
  obtain ⟨o2, V', b3, b4⟩ := hv 1 V rfl
  rw [t2, Nat.zero_add] at b3
  rw [← hP0] at hC
  have c1 : w.drew.cell? ⟨P0, 1, none⟩ = some V' := by
    have : w.drew.heap[P0]? = some (.cells C e fz) := hC
    rw [cell_of_block this]; exact b3
  rcases hV with ⟨rfl, rfl⟩ | ⟨hl0, g, rest, h2, h3, rfl, h5, h6⟩
  · cases b4
    refine (bstr_walk P0 w _ none 0 0 ⟨#[]⟩ w.drew rfl c1 none rfl (Lib.run_unsafeString_none _ _ _ _ none)).mono ?_
    rintro e w' ⟨rfl, rfl⟩
    have hb : Below w.heap.size w w.drew := (Below.refl _ w).trans ⟨rfl, rfl, rfl, Nat.le_refl _, fun _ _ => rfl⟩
    refine ⟨_, _, ι, M, ⟨rfl, Keeps.refl _ _, hKp, a, _, hg, .inl ⟨rfl, rfl⟩⟩, rfl, .string _, hr.same fun _ _ => rfl, ⟨rfl, rfl, rfl, Nat.le_refl _, fun b h => h, fun _ _ => rfl, fun _ _ _ => rfl, fun b hb => .inr ⟨b, hb, rfl⟩⟩⟩
  · obtain ⟨D, e2, fz2, hD, hDs, hDt, hDl, hDv, hDf⟩ := hr.at' g false bufS _ h6
    have hbl : (bytesV l).length = l.length := by simp [bytesV]
    have hl1 : 0 < l.length := List.length_pos_iff.2 hl0
    have hcl : (bytesV l ++ rest).length = l.length + rest.length := by rw [List.length_append, hbl]
    obtain ⟨s1, s2, s3⟩ := hDt.tag.2 rfl (by omega) (by rw [hcl]; unfold maxLen at h5; unfold bufS; omega)
    have te : e2 = 5 := by
      have : bufT = some 5 := rfl
      rw [this] at s1; cases s1; rfl
    subst te
    rw [hcl] at hDl
    have hbytes : ∀ (j : Nat) (x : UInt8), l[j]? = some x → D[j]? = some (Value.int .u8 x.toNat) := fun j x hx => by
      obtain ⟨_, u', h8, h9⟩ := hDv j (.int .u8 x.toNat) (by
        have : (bytesV l)[j]? = some (.int .u8 x.toNat) := by simp [bytesV, hx, byteV]
        rw [List.getElem?_append_left (List.getElem?_eq_some_iff.1 this).1]; exact this)
      cases h9
      rw [s2, Nat.zero_add] at h8
      exact h8
    have hlc : l.length ≤ l.length + rest.length := Nat.le_add_right _ _
    generalize hkk : l.length = k at b4
    generalize hcc0 : k + rest.length = c at b4
    cases b4 with
    | empty _ _ o' hlt => omega
    | slice _ _ _ _ cap' hlt hl hc =>
      subst hkk
      have hcc : cap' ≠ 0 := by rcases hc with hc | hc <;> omega
      rw [s2, Nat.add_zero] at c1
      refine (bstr_walk P0 w _ _ _ _ ⟨l.toArray⟩ _ rfl c1 _ (Lib.run_unsafeSliceData_row _ _ _ _ _ _ hcc) (Lib.run_unsafeString_row w.drew 76 3 9 5 Tryz.underlying76 (by kernel_rfl) (ι g).blk D.size
        (by have hD' : w.drew.heap[(ι g).blk]? = some (.cells D 5 fz2) := hD
            simp [World.shape?, hD']) l hl0 (by omega) (by unfold maxLen at h5; omega) ?_)).mono ?_
      · intro j x hx
        have hD' : w.drew.heap[(ι g).blk]? = some (.cells D 5 fz2) := hD
        rw [Addr_add, cell_of_block hD', Nat.zero_add]
        exact hbytes j x hx
      · rintro e w' ⟨rfl, rfl⟩
        obtain ⟨hi, hn, hfrz⟩ := freeze_row w.drew (ι g).blk l.length (by omega) D 5 fz2 hD
        obtain ⟨z1, z2, z3, z4⟩ := freeze_rest w.drew ⟨(ι g).blk, 0, none⟩ l.length
        obtain ⟨k1, k2⟩ := hr.turnOther (w' := w.drew.freeze ⟨(ι g).blk, 0, none⟩ l.length) (x := .raw false D 5 0 hi) h6 rfl s2 (fun _ _ _ e => by cases e) ⟨rfl, rfl⟩ hfrz (fun k hk => freeze_heap_ne _ _ _ _ hk) z1 z2 z3 z4
        refine ⟨_, _, ι, M.set g (some (.raw false D 5 0 hi)), ⟨rfl, Keeps.set h2 h6 _, hKp, a, .slice (some ⟨g, 0, none⟩) l.length (l.length + rest.length), ?_, .inr ⟨hl0, g, l.length + rest.length, D, hi, h2, h3, rfl, by omega, by omega, hn, hbytes, Mem.get_set_same h6 _⟩⟩, rfl, .string _, k1, k2⟩
        rw [Mem.get_set_ne h3]; exact hg
set_option maxHeartbeats 2000000 in
set_option maxRecDepth 100000 in
theorem bstr2_spec (K p : Nat) (M : Mem) (l : List UInt8) (hB : BRaw K p M l) :
    Spec Tryz.prog 19 [.pointer (some ⟨p, 0, none⟩)] M fun u M' => u = .string (str l) ∧ M' = M := by
  intro ι w ys hy hr
  obtain ⟨y0, rfl, h0⟩ := vrels_one hy
  obtain ⟨hKp, a, V, hg, hV⟩ := hB
  obtain ⟨C, e, fz, hC, hsz, hst, hlen', hv, hfz⟩ := hr.at' p false 0 _ hg
  obtain ⟨t1, t2, t3⟩ := hst.tag.1 rfl (by simp)
  obtain ⟨P0, hP0⟩ : ∃ P0, P0 = (ι p).blk := ⟨_, rfl⟩
  have hy0 : y0 = .pointer (some ⟨P0, 0, none⟩) := by
    cases h0
    rw [t2, hP0]
  subst hy0
  obtain ⟨o2, V', b3, b4⟩ := hv 1 V rfl
  rw [t2, Nat.zero_add] at b3
  rw [← hP0] at hC
  have c1 : w.drew.cell? ⟨P0, 1, none⟩ = some V' := by
    have : w.drew.heap[P0]? = some (.cells C e fz) := hC
    rw [cell_of_block this]; exact b3
  rcases hV with ⟨rfl, rfl⟩ | ⟨hl0, g, c, D, hi, h2, h3, rfl, h4, h5, h7, hbytes, h6⟩
  · cases b4
    refine (bstr_walk P0 w _ none 0 0 ⟨#[]⟩ w.drew rfl c1 none rfl (Lib.run_unsafeString_none _ _ _ _ none)).mono ?_
    rintro e w' ⟨rfl, rfl⟩
    refine ⟨_, _, ι, M, ⟨rfl, rfl⟩, rfl, .string _, hr.same fun _ _ => rfl, ⟨rfl, rfl, rfl, Nat.le_refl _, fun b h => h, fun _ _ => rfl, fun _ _ _ => rfl, fun b hb => .inr ⟨b, hb, rfl⟩⟩⟩
  · obtain ⟨hD, s2⟩ := hr.oth g _ h6
    have hl1 : 0 < l.length := List.length_pos_iff.2 hl0
    have hDl : l.length ≤ D.size := by
      obtain ⟨x, hx⟩ : ∃ x, l[l.length - 1]? = some x := ⟨_, List.getElem?_eq_getElem (by omega)⟩
      have := (Array.getElem?_eq_some_iff.1 (hbytes _ _ hx)).1
      omega
    generalize hkk : l.length = k at b4
    cases b4 with
    | empty _ _ o' hlt => omega
    | slice _ _ _ _ cap' hlt hl hc =>
      subst hkk
      have hcc : cap' ≠ 0 := by rcases hc with hc | hc <;> omega
      rw [s2, Nat.add_zero] at c1
      refine (bstr_walk P0 w _ _ _ _ ⟨l.toArray⟩ _ rfl c1 _ (Lib.run_unsafeSliceData_row _ _ _ _ _ _ hcc) (Lib.run_unsafeString_row w.drew 76 3 9 5 Tryz.underlying76 (by kernel_rfl) (ι g).blk D.size
        (by have hD' : w.drew.heap[(ι g).blk]? = some (.cells D 5 (0, hi)) := hD
            simp [World.shape?, hD']) l hl0 (by omega) (by unfold maxLen at h5; omega) ?_)).mono ?_
      · intro j x hx
        have hD' : w.drew.heap[(ι g).blk]? = some (.cells D 5 (0, hi)) := hD
        rw [Addr_add, cell_of_block hD', Nat.zero_add]
        exact hbytes j x hx
      · rintro e w' ⟨rfl, rfl⟩
        obtain ⟨z1, z2, z3, z4⟩ := freeze_rest w.drew ⟨(ι g).blk, 0, none⟩ l.length
        have hsame := freeze_again w.drew (ι g).blk l.length D 5 hi (by omega) h7 hD
        have hh : ∀ k : Nat, (w.drew.freeze ⟨(ι g).blk, 0, none⟩ l.length).heap[k]? = w.heap[k]? := fun k => by rw [hsame]; rfl
        refine ⟨_, _, ι, M, ⟨rfl, rfl⟩, rfl, .string _, hr.same fun _ _ => hh _, ⟨z2, z3, z4, by rw [z1]; exact Nat.le_refl _, fun b h => h, fun _ _ => rfl, fun _ _ _ => hh _, fun b hb => .inr ⟨b, hb, rfl⟩⟩⟩
end Go.Proofs.YtabffcplbjaklaaGreatDoor.Abs
namespace Go.Proofs.YtabffcplbjaklaaGreatDoor
open Go.RowKit
theorem rotr_bits (x n : Nat) (hx : x < 4294967296) (hn : n < 32) :
    bits BinOp.or IntKind.u32 ((x : Int) / 2 ^ n) ((x : Int) * 2 ^ (32 - n) % 4294967296) = (Sha.rotr x n : Nat) := by
  have e1 : ((x : Int) / 2 ^ n) = ((x >>> n : Nat) : Int) := by rw [Nat.shiftRight_eq_div_pow]; simp
  have e2 : ((x : Int) * 2 ^ (32 - n) % 4294967296) = (((x <<< (32 - n)) % 4294967296 : Nat) : Int) := by rw [Nat.shiftLeft_eq]; simp
  rw [e1, e2, u32_or_nat _ _ (Sha.shr_lt hx) (Nat.mod_lt _ (by decide))]
  rfl
set_option maxHeartbeats 400000 in
theorem turn_any (x n : Nat) (hx : x < 4294967296) (hn : n < 32) (w : World) :
    Calls Tryz.prog 101 #[.int .u32 x, .int .i64 n] w fun e w' => e = .returned (.int .u32 (Sha.rotr x n)) ∧ ∃ k, w' = w.drewN k := by
  have e := rotr_bits x n hx hn
  go_enter Tryz.func101, Tryz.ntmps101
  go_wp2
  go_quiet (fail)
  go_wp2
  go_ret
  exact ⟨rfl, _, rfl⟩
theorem turn_i (x : Nat) (b : Int) (hx : x < 4294967296) (h0 : 0 ≤ b) (hb : b < 32) (w : World) :
    Calls Tryz.prog 101 #[.int .u32 x, .int .i64 b] w fun e w' => e = .returned (.int .u32 (Sha.rotr x b.toNat)) ∧ ∃ k, w' = w.drewN k := by
  obtain ⟨n, rfl⟩ := Int.eq_ofNat_of_zero_le h0
  rw [Int.toNat_natCast]
  exact turn_any x n hx (by omega) w
def u32s (l : List Nat) : List Value := l.map fun (n : Nat) => Value.int .u32 n
def bytesS : Shape UInt8 := Shape.flat 1 (fun b => [.int .u8 b.toNat]) (fun _ => rfl)
theorem ElemsAt.byte {w : World} {a : Option Addr} {cap : Nat} {l : List UInt8} (h : ElemsAt bytesS w a cap l) {i : Nat} (hi : i < l.length) :
    ∃ b off, a = some ⟨b, off, none⟩ ∧ b < w.heap.size ∧ w.cell? ⟨b, off + i, none⟩ = some (.int .u8 (l.getD i 0).toNat) := by
  obtain ⟨b, off, rfl, hb, cs, rfl, hc⟩ := h.at hi
  refine ⟨b, off, rfl, hb, ?_⟩
  have := hc 0 _ rfl
  simpa [bytesS, Shape.flat, List.getD, List.getElem?_eq_getElem hi] using this
theorem fill_set (xs : List Value) (t : Nat) (z v : Value) (n : Nat) (hx : xs.length = t) (hn : t < n) :
    (xs ++ List.replicate (n - t) z).toArray.setIfInBounds t v = (xs ++ [v] ++ List.replicate (n - (t + 1)) z).toArray := by
  apply Array.ext'
  rw [Array.toList_setIfInBounds]
  subst hx
  obtain ⟨k, hk⟩ : ∃ k, n - xs.length = k + 1 := ⟨n - xs.length - 1, by omega⟩
  rw [hk, show n - (xs.length + 1) = k by omega, List.replicate_succ]
  simp [List.set_append]
theorem u32s_sched (b : Sha.Bytes) (t : Nat) : u32s (Sha.sched b t) ++ [Value.int .u32 ((if t < 16 then Sha.beWord b t else Sha.nextW (Sha.sched b t) t : Nat) : Int)] = u32s (Sha.sched b (t + 1)) := by
  simp [u32s, Sha.sched]
theorem or_add (a b n : Nat) (h : b < 2 ^ n) : (a * 2 ^ n) ||| b = a * 2 ^ n + b := by
  rw [← Nat.shiftLeft_eq, Nat.shiftLeft_add_eq_or_of_lt h]
theorem be_bits (a b c d : Nat) (ha : a < 256) (hb : b < 256) (hc : c < 256) (hd : d < 256) :
    bits BinOp.or IntKind.u32 (bits BinOp.or IntKind.u32 (bits BinOp.or IntKind.u32 ((a : Int) % 4294967296 * 16777216 % 4294967296) ((b : Int) % 4294967296 * 65536 % 4294967296)) ((c : Int) % 4294967296 * 256 % 4294967296)) ((d : Int) % 4294967296)
      = ((a * 16777216 + b * 65536 + c * 256 + d : Nat) : Int) := by
  have w : ∀ n : Int, 0 ≤ n → n < 4294967296 → n % 4294967296 = n := fun n h0 h1 => by omega
  rw [w a (by omega) (by omega), w b (by omega) (by omega), w c (by omega) (by omega), w d (by omega) (by omega), w _ (by omega) (by omega), w _ (by omega) (by omega), w _ (by omega) (by omega)]
  rw [show ((a : Int) * 16777216) = ((a * 16777216 : Nat) : Int) by simp, show ((b : Int) * 65536) = ((b * 65536 : Nat) : Int) by simp, show ((c : Int) * 256) = ((c * 256 : Nat) : Int) by simp]
  have o1 : (a * 16777216) ||| (b * 65536) = a * 16777216 + b * 65536 := or_add a (b * 65536) 24 (by omega)
  have o2 : (a * 16777216 + b * 65536) ||| (c * 256) = a * 16777216 + b * 65536 + c * 256 := by
    have := or_add (a * 256 + b) (c * 256) 16 (by omega)
    rw [show (a * 256 + b) * 2 ^ 16 = a * 16777216 + b * 65536 by omega] at this
    exact this
  have o3 : (a * 16777216 + b * 65536 + c * 256) ||| d = a * 16777216 + b * 65536 + c * 256 + d := by
    have := or_add (a * 65536 + b * 256 + c) d 8 (by omega)
    rw [show (a * 65536 + b * 256 + c) * 2 ^ 8 = a * 16777216 + b * 65536 + c * 256 by omega] at this
    exact this
  rw [u32_or_nat _ _ (by omega) (by omega), o1, u32_or_nat _ _ (by omega) (by omega), o2, u32_or_nat _ _ (by omega) (by omega), o3]
theorem xor3_bits (a b c : Nat) (ha : a < 4294967296) (hb : b < 4294967296) (hc : c < 4294967296) :
    bits BinOp.xor IntKind.u32 (bits BinOp.xor IntKind.u32 (a : Int) (b : Int)) (c : Int) = (((a ^^^ b) ^^^ c : Nat) : Int) := by
  rw [u32_xor_nat _ _ ha hb, u32_xor_nat _ _ (Sha.xor_lt ha hb) hc]
theorem next_bits (x16 x15 x7 x2 : Nat) (h15 : x15 < 4294967296) (h2 : x2 < 4294967296) :
    ((x16 : Int) + bits BinOp.xor IntKind.u32 (bits BinOp.xor IntKind.u32 ((Sha.rotr x15 7 : Nat) : Int) ((Sha.rotr x15 18 : Nat) : Int)) ((x15 : Int) / 8) + x7 +
      bits BinOp.xor IntKind.u32 (bits BinOp.xor IntKind.u32 ((Sha.rotr x2 17 : Nat) : Int) ((Sha.rotr x2 19 : Nat) : Int)) ((x2 : Int) / 1024)) % 4294967296 = (((x16 + Sha.s0 x15 + x7 + Sha.s1 x2) % 4294967296 : Nat) : Int) := by
  have e2 : ∀ y : Nat, (y : Int) / (8 : Int) = ((y >>> 3 : Nat) : Int) := fun y => by rw [Nat.shiftRight_eq_div_pow]; omega
  have e3 : ∀ y : Nat, (y : Int) / (1024 : Int) = ((y >>> 10 : Nat) : Int) := fun y => by rw [Nat.shiftRight_eq_div_pow]; omega
  rw [e2, e3]
  rw [xor3_bits _ _ _ (Sha.rotr_lt h15) (Sha.rotr_lt h15) (Sha.shr_lt h15), xor3_bits _ _ _ (Sha.rotr_lt h2) (Sha.rotr_lt h2) (Sha.shr_lt h2)]
  have e0 : (Sha.rotr x15 7 ^^^ Sha.rotr x15 18) ^^^ (x15 >>> 3) = Sha.s0 x15 := rfl
  have e1 : (Sha.rotr x2 17 ^^^ Sha.rotr x2 19) ^^^ (x2 >>> 10) = Sha.s1 x2 := rfl
  rw [e0, e1]
  omega
set_option maxRecDepth 100000 in
set_option maxHeartbeats 1000000 in
theorem words_any (b off cap : Nat) (l : List UInt8) (hl : l.length = 64) (w : World) (he : ElemsAt bytesS w (some ⟨b, off, none⟩) cap l) :
    Calls Tryz.prog 100 #[.slice (some ⟨b, off, none⟩) 64 cap] w fun e w' => e = .returned (.agg (u32s (Sha.sched l 64)).toArray) ∧ Below w.heap.size w w' := by
  go_enter Tryz.func100, Tryz.ntmps100
  go_wp2
  go_loopw [8] (fun i wr => ∃ t : Nat, t ≤ 16 ∧ i = .int .i64 t ∧ Below w.heap.size w wr ∧ wr.heap[w.heap.size + 1]? = some (.cells (u32s (Sha.sched l t) ++ List.replicate (64 - t) (Value.int .u32 0)).toArray 127 (0, 0)) ∧ wr.heap[w.heap.size]? = some (.cells (List.replicate 64 (Value.int .u32 0)).toArray 127 (0, 0))) (fun i _ => 16 - (intOf i).toNat)
  case atStart => exact ⟨0, by omega, rfl, ((Below.refl _ _).alloc (Nat.le_refl _) _).alloc (by simp) _, heap_alloc_at (by simp) _, heap_alloc_old (heap_alloc_new _ _)⟩
  case round =>
    obtain ⟨t, ht, rfl, hb, hg, hz⟩ := hrel
    have hz' := Lib.hid hz
    clear hz
    by_cases hlt : t < 16
    · have hg' := Lib.hid hg
      have hb' := Lib.hid hb
      have he' := Lib.hid he
      clear hg hb he
      go_wp2
      refine region_tail 35 (by kernel_rfl) (by kernel_rfl) fun w2 hs => ?_
      simp only [List.take_succ_cons, List.take_zero, List.drop_succ_cons, List.drop_zero]
      have hb2 := hb'.out.trans (hs.below _)
      obtain ⟨b', off', e0, hbb, c0⟩ := (he'.out.mono hb2).byte (i := 4 * t) (by omega)
      obtain ⟨b', off', e1, _, c1⟩ := (he'.out.mono hb2).byte (i := 4 * t + 1) (by omega)
      obtain ⟨b', off', e2, _, c2⟩ := (he'.out.mono hb2).byte (i := 4 * t + 2) (by omega)
      obtain ⟨b', off', e3, _, c3⟩ := (he'.out.mono hb2).byte (i := 4 * t + 3) (by omega)
      simp only [Option.some.injEq, Addr.mk.injEq, and_true] at e0 e1 e2 e3
      obtain ⟨rfl, rfl⟩ := e0
      obtain ⟨rfl, rfl⟩ := e1
      obtain ⟨rfl, rfl⟩ := e2
      obtain ⟨rfl, rfl⟩ := e3
      have hg2 := Lib.hid (hs.at hg'.out)
      have hz2 := Lib.hid (hs.at hz'.out)
      clear hs hb'
      have HB2 := Lib.hid hb2
      clear hb2
      obtain ⟨a0, e0⟩ : ∃ a : Nat, a = (l.getD (4 * t) 0).toNat := ⟨_, rfl⟩
      obtain ⟨a1, e1⟩ : ∃ a : Nat, a = (l.getD (4 * t + 1) 0).toNat := ⟨_, rfl⟩
      obtain ⟨a2, e2⟩ : ∃ a : Nat, a = (l.getD (4 * t + 2) 0).toNat := ⟨_, rfl⟩
      obtain ⟨a3, e3⟩ : ∃ a : Nat, a = (l.getD (4 * t + 3) 0).toNat := ⟨_, rfl⟩
      rw [← e0] at c0
      rw [← e1] at c1
      rw [← e2] at c2
      rw [← e3] at c3
      have hw : Hid (((Sha.beWord l t : Nat) : Int) = bits BinOp.or IntKind.u32 (bits BinOp.or IntKind.u32 (bits BinOp.or IntKind.u32 ((a0 : Int) % 4294967296 * 16777216 % 4294967296) ((a1 : Int) % 4294967296 * 65536 % 4294967296)) ((a2 : Int) % 4294967296 * 256 % 4294967296)) ((a3 : Int) % 4294967296)) := by
        rw [be_bits a0 a1 a2 a3 (by rw [e0]; exact UInt8.toNat_lt _) (by rw [e1]; exact UInt8.toNat_lt _) (by rw [e2]; exact UInt8.toNat_lt _) (by rw [e3]; exact UInt8.toNat_lt _), e0, e1, e2, e3]
        rfl
      clear e0 e1 e2 e3
      obtain ⟨x0, y0, z0⟩ := idx (4 * (t : Int)) (4 * t) (by omega) (by omega)
      obtain ⟨x1, y1, z1⟩ := idx (4 * (t : Int) + 1) (4 * t + 1) (by omega) (by omega)
      obtain ⟨x2, y2, z2⟩ := idx (4 * (t : Int) + 2) (4 * t + 2) (by omega) (by omega)
      obtain ⟨x3, y3, z3⟩ := idx (4 * (t : Int) + 3) (4 * t + 3) (by omega) (by omega)
      have l0 : 4 * (t : Int) < 64 := by omega
      have l1 : 4 * (t : Int) + 1 < 64 := by omega
      have l2 : 4 * (t : Int) + 2 < 64 := by omega
      have l3 : 4 * (t : Int) + 3 < 64 := by omega
      have l4 : (t : Int) < 64 := by omega
      have fz := frozen_of hg2.out t
      have cz : w2.cell? ⟨w.heap.size + 1, t, none⟩ = some (.int .u32 0) := by
        rw [cell_of hg2.out]
        have e : (u32s (Sha.sched l t)).length = t := by simp [u32s, Sha.sched_length]
        rw [List.getElem?_toArray, List.getElem?_append_right (by omega), e, List.getElem?_replicate, if_pos (by omega)]
      repeat still_step
      refine wpStill_nil ?_
      go_wp2
      go_roundw
      case rel =>
        refine ⟨t + 1, by omega, by go_num, HB2.out.setCell (by simp) _, ?_, by rw [heap_setCell_ne (by simp)]; exact hz2.out⟩
        rw [heap_setCell hg2.out, fill_set _ _ _ _ _ (by simp [u32s, Sha.sched_length]) (by omega), ← hw.out, ← u32s_sched, if_pos hlt]
      case measure => simp [intOf]; omega
    · have e16 : t = 16 := by omega
      rw [e16] at hg
      clear e16
      have hg' := Lib.hid hg
      have hb' := Lib.hid hb
      clear hg hb he
      go_wp2
      go_loopw [5] (fun i wr => ∃ t : Nat, 16 ≤ t ∧ t ≤ 64 ∧ i = .int .i64 t ∧ Below w.heap.size w wr ∧ wr.heap[w.heap.size + 1]? = some (.cells (u32s (Sha.sched l t) ++ List.replicate (64 - t) (Value.int .u32 0)).toArray 127 (0, 0)) ∧ wr.heap[w.heap.size]? = some (.cells (List.replicate 64 (Value.int .u32 0)).toArray 127 (0, 0))) (fun i _ => 64 - (intOf i).toNat)
      case atStart => exact ⟨16, by omega, by omega, rfl, hb'.out, hg'.out, hz'.out⟩
      case round =>
        clear hz'
        obtain ⟨t, ht1, ht2, rfl, hb, hg, hz⟩ := hrel
        have hz' := Lib.hid hz
        clear hg' hb' hz
        by_cases hlt : t < 64
        · have hgd : ∀ k, k < t → wr.cell? ⟨w.heap.size + 1, k, none⟩ = some (.int .u32 ((Sha.sched l t).getD k 0 : Nat)) := by
            intro k hk
            rw [cell_of hg]
            have e : (u32s (Sha.sched l t)).length = t := by simp [u32s, Sha.sched_length]
            rw [List.getElem?_toArray, List.getElem?_append_left (by omega)]
            have : k < (Sha.sched l t).length := by rw [Sha.sched_length]; omega
            simp [u32s, this]
          have c15 := hgd (t - 15) (by omega)
          have c2 := hgd (t - 2) (by omega)
          have c16 := hgd (t - 16) (by omega)
          have c7 := hgd (t - 7) (by omega)
          have f15 := Sha.sched_lt l (t - 15) t
          have f2 := Sha.sched_lt l (t - 2) t
          have f16 := Sha.sched_lt l (t - 16) t
          have f7 := Sha.sched_lt l (t - 7) t
          obtain ⟨X15, e15⟩ : ∃ a : Nat, a = (Sha.sched l t).getD (t - 15) 0 := ⟨_, rfl⟩
          obtain ⟨X2, e2⟩ : ∃ a : Nat, a = (Sha.sched l t).getD (t - 2) 0 := ⟨_, rfl⟩
          obtain ⟨X16, e16⟩ : ∃ a : Nat, a = (Sha.sched l t).getD (t - 16) 0 := ⟨_, rfl⟩
          obtain ⟨X7, e7⟩ : ∃ a : Nat, a = (Sha.sched l t).getD (t - 7) 0 := ⟨_, rfl⟩
          rw [← e15] at c15 f15
          rw [← e2] at c2 f2
          rw [← e16] at c16 f16
          rw [← e7] at c7 f7
          have hw : Hid (Sha.nextW (Sha.sched l t) t = (X16 + Sha.s0 X15 + X7 + Sha.s1 X2) % 4294967296) := by simp only [Hid, Sha.nextW, e15, e2, e16, e7]
          clear e15 e2 e16 e7 hgd
          have hg' := Lib.hid hg
          have hb' := Lib.hid hb
          clear hg hb
          obtain ⟨x15, y15, z15⟩ := idx ((t : Int) - 15) (t - 15) (by omega) (by omega)
          obtain ⟨x2, y2, z2⟩ := idx ((t : Int) - 2) (t - 2) (by omega) (by omega)
          obtain ⟨x16, y16, z16⟩ := idx ((t : Int) - 16) (t - 16) (by omega) (by omega)
          obtain ⟨x7, y7, z7⟩ := idx ((t : Int) - 7) (t - 7) (by omega) (by omega)
          have l15 : (t : Int) - 15 < 64 := by omega
          have l2 : (t : Int) - 2 < 64 := by omega
          have l16 : (t : Int) - 16 < 64 := by omega
          have l7 : (t : Int) - 7 < 64 := by omega
          have l0 : (t : Int) < 64 := by omega
          have m16 : (16 : Int) ≤ t := by omega
          have m7 : (7 : Int) ≤ t := by omega
          go_wp2
          go_quiet ((go_at_call 101; exact Calls.quiet_of (turn_i _ _ f15 (by decide) (by decide) _)))
          go_wp2
          go_quiet ((go_at_call 101; exact quiet_add (turn_i _ _ f2 (by decide) (by decide) _)))
          go_wp2
          refine region_tail 15 (by kernel_rfl) (by kernel_rfl) fun w2 hs => ?_
          simp only [List.take_succ_cons, List.take_zero, List.drop_succ_cons, List.drop_zero]
          have hs' := (Same.drewN wr _).trans ((Same.drewN _ _).trans hs)
          have hb2 := Lib.hid (hb'.out.trans (hs'.below _))
          have hg2 := Lib.hid (hs'.at hg'.out)
          have hz2 := Lib.hid (hs'.at hz'.out)
          replace c16 := hs'.cell c16
          replace c7 := hs'.cell c7
          have fz := frozen_of hg2.out t
          have cz : w2.cell? ⟨w.heap.size + 1, t, none⟩ = some (.int .u32 0) := by
            rw [cell_of hg2.out]
            have e : (u32s (Sha.sched l t)).length = t := by simp [u32s, Sha.sched_length]
            rw [List.getElem?_toArray, List.getElem?_append_right (by omega), e, List.getElem?_replicate, if_pos (by omega)]
          clear hs hs' c15 c2 hg' hb'
          repeat still_step
          refine wpStill_nil ?_
          go_wp2
          go_roundw
          case rel =>
            refine ⟨t + 1, by omega, by omega, by go_num, hb2.out.setCell (by simp) _, ?_, by rw [heap_setCell_ne (by simp)]; exact hz2.out⟩
            rw [heap_setCell hg2.out, fill_set _ _ _ _ _ (by simp [u32s, Sha.sched_length]) (by omega), ← u32s_sched, if_neg (by omega), hw.out, ← next_bits _ _ _ _ f15 f2]
          case measure => simp [intOf]; omega
        · have e64 : t = 64 := by omega
          rw [e64, Nat.sub_self, List.replicate_zero, List.append_nil] at hg
          have hsz : (u32s (Sha.sched l 64)).length = 64 := by simp [u32s, Sha.sched_length]
          have hone : ((u32s (Sha.sched l 64)).toArray.all (·.oneCell')) = true := by simp [u32s, Value.oneCell']
          generalize hC : (u32s (Sha.sched l 64)).toArray = C at *
          have hCs : C.size = 64 := by rw [← hC]; simpa using hsz
          have hC' := Lib.hid hC
          have hCs' := Lib.hid hCs
          have hone' := Lib.hid hone
          have hg' := Lib.hid hg
          have hb' := Lib.hid hb
          clear hg hb hC hCs hone e64 hsz
          go_wp2_with (refine wpList_load_row rfl 127 _ rfl (w.heap.size + 1) rfl 127 C (0, 0) _ hg'.out Tryz.underlying127 rfl (by rw [hCs'.out]; kernel_rfl) ?_; go_must (refine wpList_store_row rfl 127 _ _ rfl w.heap.size C rfl rfl 127 (List.replicate 64 (Value.int .u32 0)).toArray hz'.out ?s1 ?s2 hone'.out ?_))
          case s1 => rw [hCs'.out]; kernel_rfl
          case s2 => rw [hCs'.out]; rfl
          have hW := setRow_heap wr w.heap.size (List.replicate 64 (Value.int .u32 0)).toArray C 127 (0, 0) hz'.out
          have hB := below_setRow hb'.out (Nat.le_refl w.heap.size) C
          generalize wr.setRow w.heap.size C = wz at *
          refine bodyPost_ret (v := .agg C) ?r ?d ?fin
          case fin => exact ⟨by rw [hC'.out], hB⟩
          case d => rfl
          case r =>
            refine results_cell_row Tryz.results100 _ _ w.heap.size 127 C (0, 0) _ ?_ hW Tryz.underlying127 rfl ?_
            · rfl
            · rw [hCs'.out]; kernel_rfl
end Go.Proofs.YtabffcplbjaklaaGreatDoor
namespace Go.Proofs.YtabffcplbjaklaaGreatDoor
open Go.RowKit
def kc : List Value := [.int .u32 1116352408, .int .u32 1899447441, .int .u32 3049323471, .int .u32 3921009573, .int .u32 961987163, .int .u32 1508970993, .int .u32 2453635748, .int .u32 2870763221, .int .u32 3624381080, .int .u32 310598401, .int .u32 607225278, .int .u32 1426881987, .int .u32 1925078388, .int .u32 2162078206, .int .u32 2614888103, .int .u32 3248222580, .int .u32 3835390401, .int .u32 4022224774, .int .u32 264347078, .int .u32 604807628, .int .u32 770255983, .int .u32 1249150122, .int .u32 1555081692, .int .u32 1996064986, .int .u32 2554220882, .int .u32 2821834349, .int .u32 2952996808, .int .u32 3210313671, .int .u32 3336571891, .int .u32 3584528711, .int .u32 113926993, .int .u32 338241895, .int .u32 666307205, .int .u32 773529912, .int .u32 1294757372, .int .u32 1396182291, .int .u32 1695183700, .int .u32 1986661051, .int .u32 2177026350, .int .u32 2456956037, .int .u32 2730485921, .int .u32 2820302411, .int .u32 3259730800, .int .u32 3345764771, .int .u32 3516065817, .int .u32 3600352804, .int .u32 4094571909, .int .u32 275423344, .int .u32 430227734, .int .u32 506948616, .int .u32 659060556, .int .u32 883997877, .int .u32 958139571, .int .u32 1322822218, .int .u32 1537002063, .int .u32 1747873779, .int .u32 1955562222, .int .u32 2024104815, .int .u32 2227730452, .int .u32 2361852424, .int .u32 2428436474, .int .u32 2756734187, .int .u32 3204031479, .int .u32 3329325298]
theorem kc_eq : kc = Sha.K.map fun (n : Nat) => Value.int .u32 n := rfl
theorem kc_one : (kc.toArray.all (·.oneCell')) = true := by simp [kc_eq, Value.oneCell']
theorem kc_get (i : Nat) (hi : i < 64) : kc.toArray[i]? = some (.int .u32 (Sha.K.getD i 0 : Nat)) := by
  have : i < Sha.K.length := by simpa [Sha.K] using hi
  simp only [kc_eq, List.getElem?_toArray, List.getElem?_map, List.getD, List.getElem?_eq_getElem this]
  rfl
set_option maxRecDepth 100000 in
set_option maxHeartbeats 1000000 in
theorem round_any (i : Nat) (hi : i < 64) (w : World) :
    Calls Tryz.prog 102 #[.int .i64 i] w fun e w' => e = .returned (.int .u32 (Sha.K.getD i 0)) ∧ Below w.heap.size w w' := by
  have hk := kc_get i hi
  obtain ⟨k, hk2⟩ : ∃ k, k = Sha.K.getD i 0 := ⟨_, rfl⟩
  rw [← hk2] at hk ⊢
  have HK := Lib.hid hk
  have hi' : (i : Int) < 64 := by omega
  clear hk2 hk
  go_enter Tryz.func102, Tryz.ntmps102
  go_wp2_with (refine wpList_store_new rfl 127 _ _ rfl kc.toArray rfl rfl (by kernel_rfl) (by rfl) kc_one ?_; intro wz hW hB hS; have hB' := Lib.hid hB; have hc := cell_of hW i; rw [HK.out] at hc; clear hB hW hS)
  go_ret
  exact ⟨rfl, hB'.out⟩
end Go.Proofs.YtabffcplbjaklaaGreatDoor
namespace Go.Proofs.YtabffcplbjaklaaGreatDoor
open Go.RowKit
def w8c (v : Sha.W8) : Array Value := #[.int .u32 v.a, .int .u32 v.b, .int .u32 v.c, .int .u32 v.d, .int .u32 v.e, .int .u32 v.f, .int .u32 v.g, .int .u32 v.h]
theorem blend_set (A B : List Value) (t : Nat) (h : A.length = B.length) (v : Value) (hv : A[t]? = some v) : (A.take t ++ B.drop t).toArray.setIfInBounds t v = (A.take (t + 1) ++ B.drop (t + 1)).toArray := by
  obtain ⟨ht, hv⟩ := List.getElem?_eq_some_iff.1 hv
  apply Array.ext'
  rw [Array.toList_setIfInBounds]
  rw [List.take_succ_eq_append_getElem ht, hv, List.drop_eq_getElem_cons (show t < B.length by omega)]
  have e : (A.take t).length = t := by simp; omega
  show List.set (A.take t ++ B[t] :: B.drop (t + 1)) t v = A.take t ++ [v] ++ B.drop (t + 1)
  simp only [List.set_append, e, Nat.lt_irrefl, ↓reduceIte, Nat.sub_self, List.set_cons_zero, List.append_assoc, List.singleton_append]
theorem blend_get (A B : List Value) (t : Nat) (h : A.length = B.length) (ht : t < A.length) : (A.take t ++ B.drop t).toArray[t]? = B[t]? := by
  have e : (A.take t).length = t := by simp; omega
  rw [List.getElem?_toArray, List.getElem?_append_right (by omega), e, Nat.sub_self, List.getElem?_drop]
  rfl
def w8l (v : Sha.W8) : List Value := [.int .u32 v.a, .int .u32 v.b, .int .u32 v.c, .int .u32 v.d, .int .u32 v.e, .int .u32 v.f, .int .u32 v.g, .int .u32 v.h]
theorem w8l_plus (x y : Sha.W8) (t : Nat) (ht : t < 8) : ∃ a b : Nat, (w8l x)[t]? = some (.int .u32 a) ∧ (w8l y)[t]? = some (.int .u32 b) ∧ (w8l (x.plus y))[t]? = some (.int .u32 (((a : Int) + b) % 4294967296)) := by
  have : t = 0 ∨ t = 1 ∨ t = 2 ∨ t = 3 ∨ t = 4 ∨ t = 5 ∨ t = 6 ∨ t = 7 := by omega
  rcases this with rfl | rfl | rfl | rfl | rfl | rfl | rfl | rfl <;> exact ⟨_, _, rfl, rfl, by simp [w8l, Sha.W8.plus]⟩
theorem run_index_agg {P : Program} {k : IntKind} (t e : TypeId) (n : Nat) (he : P.underlying e = some (.int k)) (hu : P.underlying t = some (.array n e)) (hs : (P.info? e).map (·.size) = some 1) (C : Array Value) (hn : C.size = n) (i : Nat) (v : Value) (hv : C[i]? = some v) (w : World) :
    (Instr.index t (.agg C) (.int .i64 i)).run P w = .ok v w := by
  have hi : i < C.size := (Array.getElem?_eq_some_iff.1 hv).1
  obtain ⟨inf, hinf, hsz⟩ := Option.map_eq_some_iff.1 hs
  have h1 : (sizeOf e).run P w = .ok 1 w := by simp [sizeOf, typeInfo, hinf, hsz]
  have h2 : (isAgg e).run P w = .ok false w := by
    unfold isAgg
    rw [Sem.run_bind, run_underlying he w]
    simp
  simp [Instr.index, asIntOf, run_underlying hu, h1, show i < n by omega, part, h2, hv]
theorem turn_pure (x : Nat) (b : Int) (hx : x < 4294967296) (h0 : 0 ≤ b) (hb : b < 32) (w : World) :
    Calls Tryz.prog 101 #[.int .u32 x, .int .i64 b] w fun e w' => e = .returned (.int .u32 (Sha.rotr x b.toNat)) ∧ Below w.heap.size w w' :=
  (turn_i x b hx h0 hb w).mono fun _ _ ⟨he, _, hk⟩ => ⟨he, by rw [hk]; exact (Same.drewN w _).below _⟩
theorem ch_bits (e f g : Nat) (he : e < 4294967296) (hf : f < 4294967296) (hg : g < 4294967296) :
    bits BinOp.xor IntKind.u32 (bits BinOp.and IntKind.u32 (e : Int) (f : Int)) (bits BinOp.and IntKind.u32 (bits BinOp.xor IntKind.u32 (if IntKind.u32.signed = true then -1 else IntKind.u32.max) (e : Int)) (g : Int)) = ((Sha.ch e f g : Nat) : Int) := by
  have h0 : bits BinOp.xor IntKind.u32 (if IntKind.u32.signed = true then -1 else IntKind.u32.max) (e : Int) = ((4294967295 - e : Nat) : Int) := by
    have e1 : (if IntKind.u32.signed = true then -1 else IntKind.u32.max) = ((4294967295 : Nat) : Int) := by decide
    rw [e1, u32_xor_nat _ _ (by decide) he]
    congr 1
    have e2 := BitVec.toNat_not (x := BitVec.ofNat 32 e)
    have e3 : (BitVec.allOnes 32 ^^^ BitVec.ofNat 32 e).toNat = 4294967295 ^^^ e := by
      rw [BitVec.toNat_xor]; simp [BitVec.toNat_allOnes, Nat.mod_eq_of_lt he]
    have e4 : BitVec.allOnes 32 ^^^ BitVec.ofNat 32 e = ~~~ (BitVec.ofNat 32 e) := BitVec.allOnes_xor
    rw [← e3, e4, e2]
    simp [Nat.mod_eq_of_lt he]
  rw [h0, u32_and_nat _ _ he hf, u32_and_nat _ _ (by omega) hg, u32_xor_nat _ _ (Sha.and_lt he) (Sha.and_lt (by omega))]
  rfl
theorem one_bits (e f g h k w : Nat) (he : e < 4294967296) (hf : f < 4294967296) (hg : g < 4294967296) :
    IntKind.u32.wrap (IntKind.u32.wrap (IntKind.u32.wrap (IntKind.u32.wrap ((h : Int) +
      bits BinOp.xor IntKind.u32 (bits BinOp.xor IntKind.u32 ((Sha.rotr e 6 : Nat) : Int) ((Sha.rotr e 11 : Nat) : Int)) ((Sha.rotr e 25 : Nat) : Int)) +
      bits BinOp.xor IntKind.u32 (bits BinOp.and IntKind.u32 (e : Int) (f : Int)) (bits BinOp.and IntKind.u32 (bits BinOp.xor IntKind.u32 (if IntKind.u32.signed = true then -1 else IntKind.u32.max) (e : Int)) (g : Int))) + k) + w)
      = (((h + Sha.big1 e + Sha.ch e f g + k + w) % 4294967296 : Nat) : Int) := by
  rw [ch_bits e f g he hf hg, xor3_bits _ _ _ (Sha.rotr_lt he) (Sha.rotr_lt he) (Sha.rotr_lt he)]
  have e1 : (Sha.rotr e 6 ^^^ Sha.rotr e 11) ^^^ Sha.rotr e 25 = Sha.big1 e := rfl
  rw [e1]
  simp only [IntKind.wrap_u32]
  omega
theorem two_bits (a b c : Nat) (ha : a < 4294967296) (hb : b < 4294967296) (hc : c < 4294967296) :
    IntKind.u32.wrap (bits BinOp.xor IntKind.u32 (bits BinOp.xor IntKind.u32 ((Sha.rotr a 2 : Nat) : Int) ((Sha.rotr a 13 : Nat) : Int)) ((Sha.rotr a 22 : Nat) : Int) +
      bits BinOp.xor IntKind.u32 (bits BinOp.xor IntKind.u32 (bits BinOp.and IntKind.u32 (a : Int) (b : Int)) (bits BinOp.and IntKind.u32 (a : Int) (c : Int))) (bits BinOp.and IntKind.u32 (b : Int) (c : Int)))
      = (((Sha.big0 a + Sha.maj a b c) % 4294967296 : Nat) : Int) := by
  rw [u32_and_nat _ _ ha hb, u32_and_nat _ _ ha hc, u32_and_nat _ _ hb hc, xor3_bits _ _ _ (Sha.and_lt ha) (Sha.and_lt ha) (Sha.and_lt hb), xor3_bits _ _ _ (Sha.rotr_lt ha) (Sha.rotr_lt ha) (Sha.rotr_lt ha)]
  have e1 : (Sha.rotr a 2 ^^^ Sha.rotr a 13) ^^^ Sha.rotr a 22 = Sha.big0 a := rfl
  have e2 : ((a &&& b) ^^^ (a &&& c)) ^^^ (b &&& c) = Sha.maj a b c := rfl
  rw [e1, e2]
  simp only [IntKind.wrap_u32]
  omega
set_option maxRecDepth 100000 in
set_option maxHeartbeats 2000000 in
theorem mix_any (st : Sha.W8) (hf : st.Fit) (b off cap : Nat) (l : List UInt8) (hl : l.length = 64) (w : World) (he : ElemsAt bytesS w (some ⟨b, off, none⟩) cap l) :
    Calls Tryz.prog 68 #[.agg (w8c st), .slice (some ⟨b, off, none⟩) 64 cap] w fun e w' => e = .returned (.agg (w8c (Sha.mix st l))) ∧ Below w.heap.size w w' := by
  unfold w8c
  go_enter Tryz.func68, Tryz.ntmps68
  go_wp2_with fail
  refine (words_any b off cap l hl _ (he.mono (by repeat (first | exact Below.refl _ _ | refine Below.alloc ?_ (by simp <;> omega) _)))).mono ?_
  rintro e w1 ⟨rfl, hb1⟩
  have hB0 : Below w.heap.size w w1 := Below.trans (by repeat (first | exact Below.refl _ _ | refine Below.alloc ?_ (by simp <;> omega) _)) (hb1.mono (by simp; omega))
  have g0 : w1.heap[w.heap.size]? = some (.cells (w8c st) 97 (0, 0)) := heap_below (heap_alloc_old (heap_alloc_old (heap_alloc_new _ _))) hb1
  have g1 : w1.heap[w.heap.size + 1]? = some (.cells (w8c ⟨0, 0, 0, 0, 0, 0, 0, 0⟩) 97 (0, 0)) := heap_below (heap_alloc_old (heap_alloc_at (by simp) _)) hb1
  have g2 : w1.heap[w.heap.size + 2]? = some (.cells (w8c st) 97 (0, 0)) := heap_below (heap_alloc_at (by simp) _) hb1
  have G0 := Lib.hid g0
  have G1 := Lib.hid g1
  have G2 := Lib.hid g2
  have HB0 := Lib.hid hB0
  clear g0 g1 g2 hb1 hB0 he
  generalize hC : (u32s (Sha.sched l 64)).toArray = C
  have hix : ∀ t, t < 64 → C[t]? = some (Value.int .u32 ((Sha.sched l 64).getD t 0 : Nat)) := by
    intro t ht
    rw [← hC]
    have : t < (Sha.sched l 64).length := by rw [Sha.sched_length]; omega
    simp [u32s, this]
  have hCn : C.size = 64 := by rw [← hC]; simp [u32s, Sha.sched_length]
  have HCn := Lib.hid hCn
  clear hC hCn
  go_wp2
  go_loopw [16] (fun i wr => ∃ t : Nat, t ≤ 64 ∧ i = .int .i64 t ∧ Below w.heap.size w wr ∧ wr.heap[w.heap.size]? = some (.cells (w8c st) 97 (0, 0)) ∧ wr.heap[w.heap.size + 1]? = some (.cells (w8c ⟨0, 0, 0, 0, 0, 0, 0, 0⟩) 97 (0, 0)) ∧
      wr.heap[w.heap.size + 2]? = some (.cells (w8c (Sha.rounds st (Sha.sched l 64) t)) 97 (0, 0))) (fun i _ => 64 - (intOf i).toNat)
  case atStart => exact ⟨0, by omega, rfl, HB0.out, G0.out, G1.out, G2.out⟩
  case round =>
    clear G0 G1 G2 HB0
    obtain ⟨t, ht, rfl, hB, g0, g1, g2⟩ := hrel
    by_cases hlt : t < 64
    · have hix' := run_index_agg (P := Tryz.prog) 127 96 64 Tryz.underlying96 Tryz.underlying127 (by kernel_rfl) C HCn.out t _ (hix t hlt)
      have hvf := Sha.rounds_fit hf (Sha.sched l 64) t
      have hW := Sha.sched_lt l t 64
      have hstep : Hid (Sha.rounds st (Sha.sched l 64) (t + 1) = Sha.turn (Sha.rounds st (Sha.sched l 64) t) (Sha.K.getD t 0) ((Sha.sched l 64).getD t 0)) := rfl
      obtain ⟨v, hv⟩ : ∃ v, v = Sha.rounds st (Sha.sched l 64) t := ⟨_, rfl⟩
      obtain ⟨W, hWe⟩ : ∃ W, W = (Sha.sched l 64).getD t 0 := ⟨_, rfl⟩
      obtain ⟨Kt, hKe⟩ : ∃ Kt, Kt = Sha.K.getD t 0 := ⟨_, rfl⟩
      have hKf : Kt < 4294967296 := by rw [hKe]; exact Sha.K_lt t
      have hround := round_any t hlt
      rw [← hKe] at hround hstep
      rw [← hWe] at hix' hW hstep
      rw [← hv] at g2 hvf hstep
      obtain ⟨va, vb, vc, vd, ve, vf, vg, vh⟩ := v
      obtain ⟨fa, fb, fc, fd, fe, ff, fg, fh⟩ := hvf
      simp only at fa fb fc fd fe ff fg fh
      have HR := Lib.hid hround
      clear hv hWe hKe hix hround
      have G0 := Lib.hid g0
      have G1 := Lib.hid g1
      have c0 := cell_of g2 0
      have c1 := cell_of g2 1
      have c2 := cell_of g2 2
      have c4 := cell_of g2 4
      have c5 := cell_of g2 5
      have c6 := cell_of g2 6
      have c7 := cell_of g2 7
      simp [w8c] at c0 c1 c2 c4 c5 c6 c7
      have G2 := Lib.hid g2
      have HB := Lib.hid hB
      clear g0 g1 g2 hB
      go_wp2
      go_quiet (fail)
      go_wp2
      have lt2 := lt_of_heap G2.out
      have S1 := Same.drewN wr nq
      generalize wr.drewN nq = w2 at *
      refine region_pure (by kernel_rfl) (by kernel_rfl) fun I ne f hfb hback => ?_
      have d5 : ∀ i, (f i).cell? ⟨w.heap.size + 2, 5, none⟩ = some (.int .u32 vf) := fun i => by rw [(hfb i).cell (by rw [S1.size]; exact lt2)]; exact S1.cell c5
      have d6 : ∀ i, (f i).cell? ⟨w.heap.size + 2, 6, none⟩ = some (.int .u32 vg) := fun i => by rw [(hfb i).cell (by rw [S1.size]; exact lt2)]; exact S1.cell c6
      have d7 : ∀ i, (f i).cell? ⟨w.heap.size + 2, 7, none⟩ = some (.int .u32 vh) := fun i => by rw [(hfb i).cell (by rw [S1.size]; exact lt2)]; exact S1.cell c7
      have hfb' := Lib.hid hfb
      clear hfb c0 c1 c2 c4 c5 c6 c7
      repeat (quiet_step ((first | (go_at_call 101; exact pure_of hfb'.out hback (turn_pure _ _ fe (by decide) (by decide) _)) | (go_at_call 102; exact pure_of hfb'.out hback (HR.out _)))))
      refine wpQuiet_nil ?_
      intro i
      have hfi := hfb'.out i
      generalize f i = w3 at *
      rw [one_bits ve vf vg vh Kt W fe ff fg]
      obtain ⟨t1, ht1⟩ : ∃ t1, t1 = (vh + Sha.big1 ve + Sha.ch ve vf vg + Kt + W) % 4294967296 := ⟨_, rfl⟩
      rw [← ht1]
      have HT1 := Lib.hid ht1
      clear ht1
      have H0 := Lib.hid (heap_below (S1.at G0.out) hfi)
      have H1 := Lib.hid (heap_below (S1.at G1.out) hfi)
      have H2 := Lib.hid (heap_below (S1.at G2.out) hfi)
      have HB3 := Lib.hid (HB.out.trans ((S1.below _).trans (hfi.mono (by rw [S1.size]; exact HB.out.size))))
      clear G0 G1 G2 HB lt2 S1 hfi hback hfb' HR d5 d6 d7
      go_wp2
      refine region_pure (by kernel_rfl) (by kernel_rfl) fun I ne f hfb hback => ?_
      have d1 : ∀ i, (f i).cell? ⟨w.heap.size + 2, 1, none⟩ = some (.int .u32 vb) := fun i => by rw [(hfb i).cell (lt_of_heap H2.out), cell_of H2.out]; rfl
      have d2 : ∀ i, (f i).cell? ⟨w.heap.size + 2, 2, none⟩ = some (.int .u32 vc) := fun i => by rw [(hfb i).cell (lt_of_heap H2.out), cell_of H2.out]; rfl
      have hfb' := Lib.hid hfb
      clear hfb
      repeat (quiet_step ((go_at_call 101; exact pure_of hfb'.out hback (turn_pure _ _ fa (by decide) (by decide) _))))
      refine wpQuiet_nil ?_
      intro i
      have hfi := hfb'.out i
      generalize f i = w4 at *
      rw [two_bits va vb vc fa fb fc]
      obtain ⟨t2, ht2⟩ : ∃ t2, t2 = (Sha.big0 va + Sha.maj va vb vc) % 4294967296 := ⟨_, rfl⟩
      rw [← ht2]
      have HT2 := Lib.hid ht2
      clear ht2
      have G0 := Lib.hid (heap_below H0.out hfi)
      have G1 := Lib.hid (heap_below H1.out hfi)
      have G2 := Lib.hid (heap_below H2.out hfi)
      have HB := Lib.hid (HB3.out.trans (hfi.mono HB3.out.size))
      clear H0 H1 H2 HB3 hfi hback hfb' d1 d2
      go_wp2
      refine region_tail 2 (by kernel_rfl) (by kernel_rfl) fun w5 hs => ?_
      simp only [List.take_succ_cons, List.take_zero, List.drop_succ_cons, List.drop_zero]
      repeat still_step
      refine wpStill_nil ?_
      have H0 := Lib.hid (hs.at G0.out)
      have H1 := Lib.hid (hs.at G1.out)
      have H2 := hs.at G2.out
      have HB3 := Lib.hid (HB.out.trans (hs.below _))
      clear G0 G1 G2 HB hs
      refine wpList_copy_splice rfl _ _ 131 131 rfl 96 Tryz.underlying131 (by kernel_rfl) (some ⟨w.heap.size + 2, 1, none⟩) (some ⟨w.heap.size + 2, 0, none⟩) 7 7 7 8 rfl rfl
        (w.heap.size + 2) 1 [.int .u32 va, .int .u32 vb, .int .u32 vc, .int .u32 vd, .int .u32 ve, .int .u32 vf, .int .u32 vg, .int .u32 vh] 97 H2 [.int .u32 va, .int .u32 vb, .int .u32 vc, .int .u32 vd, .int .u32 ve, .int .u32 vf, .int .u32 vg] rfl ?k1 (by simp) ?k2 (w.heap.size + 2) w5 (Below.refl _ _) (Nat.le_refl _) ?_
      case k1 =>
        intro _
        refine ⟨rfl, _, rfl, fun j u hj => ?_⟩
        rw [cells_add H2]
        have e7 : [Value.int .u32 va, .int .u32 vb, .int .u32 vc, .int .u32 vd, .int .u32 ve, .int .u32 vf, .int .u32 vg] = ([Value.int .u32 va, .int .u32 vb, .int .u32 vc, .int .u32 vd, .int .u32 ve, .int .u32 vf, .int .u32 vg, .int .u32 vh]).take 7 := rfl
        rw [e7, List.getElem?_take] at hj
        split at hj
        · show (#[_, _, _, _, _, _, _, _] : Array Value)[j]? = _
          simpa using hj
        · cases hj
      case k2 => simp [Value.oneCell']
      intro w6 hg6 hb6
      have g6 : w6.heap[w.heap.size + 2]? = some (.cells #[.int .u32 va, .int .u32 va, .int .u32 vb, .int .u32 vc, .int .u32 vd, .int .u32 ve, .int .u32 vf, .int .u32 vg] 97 (0, 0)) := hg6.out
      have G0 := Lib.hid (show w6.heap[w.heap.size]? = some (.cells (w8c st) 97 (0, 0)) by rw [hb6.block _ (by omega)]; exact H0.out)
      have G1 := Lib.hid (show w6.heap[w.heap.size + 1]? = some (.cells (w8c ⟨0, 0, 0, 0, 0, 0, 0, 0⟩) 97 (0, 0)) by rw [hb6.block _ (by omega)]; exact H1.out)
      have HB := Lib.hid (HB3.out.trans (hb6.mono (by omega)))
      clear H0 H1 H2 HB3 hg6 hb6
      have c4 := cell_of g6 4
      have z4 := frozen_of g6 4
      have c0 := cell_of g6 0
      have z0 := frozen_of g6 0
      simp at c4 c0
      have G2 := Lib.hid g6
      clear g6
      go_wp2
      go_roundw
      case rel =>
        refine ⟨t + 1, by omega, by go_num, (HB.out.setCell (by simp <;> omega) _).setCell (by simp <;> omega) _, ?_, ?_, ?_⟩
        · rw [heap_setCell_ne (by simp <;> omega), heap_setCell_ne (by simp <;> omega)]; exact G0.out
        · rw [heap_setCell_ne (by simp <;> omega), heap_setCell_ne (by simp <;> omega)]; exact G1.out
        · rw [heap_setCell (heap_setCell G2.out 4 _) 0 _, hstep.out]
          simp only [w8c, Sha.turn, ← HT1.out, ← HT2.out]
          simp [HT1.out, HT2.out]
      case measure => simp [intOf]; omega
    · have e64 : t = 64 := by omega
      have hmix : Hid (Sha.mix st l = st.plus (Sha.rounds st (Sha.sched l 64) t)) := by rw [e64]; rfl
      have G0 := Lib.hid g0
      have G1 := Lib.hid g1
      have G2 := Lib.hid g2
      have HB := Lib.hid hB
      generalize Sha.rounds st (Sha.sched l 64) t = v at *
      clear g0 g1 g2 hB hix e64
      go_wp2
      go_loopw [88] (fun i wr => ∃ u : Nat, u ≤ 8 ∧ i = .int .i64 u ∧ Below w.heap.size w wr ∧ wr.heap[w.heap.size]? = some (.cells ((w8l (st.plus v)).take u ++ (w8l st).drop u).toArray 97 (0, 0)) ∧
        wr.heap[w.heap.size + 1]? = some (.cells (w8c ⟨0, 0, 0, 0, 0, 0, 0, 0⟩) 97 (0, 0)) ∧ wr.heap[w.heap.size + 2]? = some (.cells (w8c v) 97 (0, 0))) (fun i _ => 8 - (intOf i).toNat)
      case atStart => exact ⟨0, by omega, rfl, HB.out, G0.out, G1.out, G2.out⟩
      case round =>
        clear G0 G1 G2 HB
        obtain ⟨u, hu, rfl, hB, g0, g1, g2⟩ := hrel
        have G0 := Lib.hid g0
        have G1 := Lib.hid g1
        have G2 := Lib.hid g2
        have HB := Lib.hid hB
        clear g0 g1 g2 hB
        by_cases hlu : u < 8
        · obtain ⟨xa, xb, e1, e2, e3⟩ := w8l_plus st v u hlu
          have E1 := Lib.hid e1
          have E2 := Lib.hid e2
          have E3 := Lib.hid e3
          clear e1 e2 e3
          have l8 : (u : Int) < 8 := by omega
          go_wp2
          refine region_tail 8 (by kernel_rfl) (by kernel_rfl) fun w2 hs => ?_
          simp only [List.take_succ_cons, List.take_zero, List.drop_succ_cons, List.drop_zero]
          have H0 := Lib.hid (hs.at G0.out)
          have H1 := Lib.hid (hs.at G1.out)
          have H2 := Lib.hid (hs.at G2.out)
          have HB2 := Lib.hid (HB.out.trans (hs.below _))
          have c0 : w2.cell? ⟨w.heap.size, u, none⟩ = some (.int .u32 xa) := by rw [cell_of H0.out, blend_get (w8l (st.plus v)) (w8l st) u rfl (by simpa [w8l] using hlu)]; exact E1.out
          have c2 : w2.cell? ⟨w.heap.size + 2, u, none⟩ = some (.int .u32 xb) := by rw [cell_of H2.out, ← E2.out]; show (w8l v).toArray[u]? = _; rw [List.getElem?_toArray]
          have z0 := frozen_of H0.out u
          clear hs G0 G1 G2 HB
          repeat still_step
          refine wpStill_nil ?_
          go_wp2
          go_roundw
          case rel =>
            refine ⟨u + 1, by omega, by go_num, HB2.out.setCell (by simp) _, ?_, ?_, ?_⟩
            · rw [heap_setCell H0.out, blend_set (w8l (st.plus v)) (w8l st) u rfl _ E3.out]
            · rw [heap_setCell_ne (by simp)]; exact H1.out
            · rw [heap_setCell_ne (by simp)]; exact H2.out
          case measure => simp [intOf]; omega
        · have e8 : u = 8 := by omega
          have g0 := G0.out
          rw [e8] at g0
          have g0' : Hid (_ = some (Obj.cells (w8c (st.plus v)) 97 (0, 0))) := g0
          clear g0 G0 e8
          go_wp2_with (refine wpList_load_row rfl 97 _ rfl w.heap.size rfl 97 (w8c (st.plus v)) (0, 0) _ g0'.out Tryz.underlying97 rfl (by kernel_rfl) ?_; go_must (refine wpList_store_row rfl 97 _ _ rfl (w.heap.size + 1) (w8c (st.plus v)) rfl rfl 97 (w8c ⟨0, 0, 0, 0, 0, 0, 0, 0⟩) G1.out ?s1 ?s2 ?s3 ?_))
          case s1 => kernel_rfl
          case s2 => rfl
          case s3 => simp [w8c, Value.oneCell']
          have hW := setRow_heap _ (w.heap.size + 1) _ (w8c (st.plus v)) 97 (0, 0) G1.out
          have hBB := below_setRow HB.out (Nat.le_succ w.heap.size) (w8c (st.plus v))
          generalize World.setRow _ (w.heap.size + 1) (w8c (st.plus v)) = wz at *
          refine bodyPost_ret (v := .agg (w8c (st.plus v))) ?r ?d ?fin
          case fin => exact ⟨by rw [hmix.out]; rfl, hBB⟩
          case d => rfl
          case r =>
            refine results_cell_row Tryz.results68 _ _ (w.heap.size + 1) 97 (w8c (st.plus v)) (0, 0) _ ?_ hW Tryz.underlying97 rfl ?_
            · rfl
            · kernel_rfl
end Go.Proofs.YtabffcplbjaklaaGreatDoor
namespace Go.Proofs.YtabffcplbjaklaaGreatDoor
open Go.RowKit
section
variable {P : Program} {md : Region.Mode} {ops : Array Oper} {C : World → Prop}
def wpAnyLQ (P : Program) (md : Region.Mode) (ops : Array Oper) (C : World → Prop) (n : Nat) (L : Array Bool → Act → Prop) : Nat → Array Bool → Act → Prop
  | 0, listed, a => L listed a
  | f + 1, listed, a =>
    Region.ready md ops listed ≠ [] ∧ ∀ i ∈ Region.ready md ops listed, i < n ∧ qOp P ops C i (wpAnyLQ P md ops C n L f (listed.setIfInBounds i true)) a
theorem wpAny_of_headQ {n g : Nat} {L : Array Bool → Act → Prop} {Q' : Exit → Act → World → Prop} (hL : ∀ listed a w, C w → L listed a → wpAny P md ops Q' g listed a w) :
    ∀ (f : Nat) (listed : Array Bool) (a : Act) (w : World), C w → wpAnyLQ P md ops C n L f listed a → wpAny P md ops Q' (f + g) listed a w
  | 0, listed, a, w, hw, h => by rw [Nat.zero_add]; exact hL _ _ _ hw h
  | f + 1, listed, a, w, hw, h => by
    rw [show f + 1 + g = (f + g) + 1 by omega]
    exact ⟨fun h0 => absurd h0 h.1, fun i hi => wpOp_of_qOp hw (fun a' w' hw' h' => wpAny_of_headQ hL f _ a' w' hw' h') (h.2 i hi).2⟩
theorem wpAnyLQ_first {n i : Nat} {oi : Oper} {v : Value} {L : Array Bool → Act → Prop} (hi : ops[i]? = some oi) (hsel : ∀ (j : Nat) (o : Oper) cs b, ops[j]? = some o → o.op ≠ .select cs b)
    (hs : Region.sinkB md ops n = true) (hc : Region.chainB md ops n = true) (hn : n < ops.size) (hin : i < n)
    (hdone : ∀ listed a, L listed a → ∀ j ∈ Region.ready md ops listed, n ≤ j) :
    ∀ (f : Nat) (listed : Array Bool) (a : Act), HeadInv md ops n listed →
      (∀ j oj, ops[j]? = some oj → j ≠ i → listed.getD j true = false → (∀ e ∈ oj.after, Region.binds md e = true → e.on ≠ i) → oi.apart ops oj = true) →
      i ∈ Region.ready md ops listed → YieldsIn P ops C oi v a →
      wpAnyLQ P md ops C n L f (listed.setIfInBounds i true) (a.put oi.dst v) → wpAnyLQ P md ops C n L (f + 1) listed a := by
  intro f
  induction f with
  | zero =>
    intro listed a inv _ hr hy H
    have hun := (mem_ready.1 hr).1
    refine ⟨fun h => (by rw [h] at hr; cases hr), fun j hj => ?_⟩
    have hjn : j < n := by
      rcases Nat.lt_or_ge j n with h | h
      · exact h
      · exact absurd hj (tail_waits hs hc hn inv _ i rfl hin hun j h)
    refine ⟨hjn, ?_⟩
    by_cases hji : j = i
    · subst hji; exact hy.qOp hi H
    · have := hdone _ _ H j (ready_mono hj hji)
      omega
  | succ f ih =>
    intro listed a inv hfree hr hy H
    have hun := (mem_ready.1 hr).1
    refine ⟨fun h => (by rw [h] at hr; cases hr), fun j hj => ?_⟩
    have hjn : j < n := by
      rcases Nat.lt_or_ge j n with h | h
      · exact h
      · exact absurd hj (tail_waits hs hc hn inv _ i rfl hin hun j h)
    refine ⟨hjn, ?_⟩
    by_cases hji : j = i
    · subst hji; exact hy.qOp hi H
    · have h1 := (H.2 j (ready_mono hj hji)).2
      obtain ⟨hjun, oj, hoj, hall⟩ := mem_ready.1 hj
      have hnot : ∀ e ∈ oj.after, Region.binds md e = true → e.on ≠ i := fun e he hb heq => by
        have h1 := hall e he hb
        rw [heq, getD_both hun] at h1
        cases h1
      have h2 := qOp_put hoj (hfree j oj hoj hji hjun hnot) (fun cs b => hsel i oi cs b hi) (fun cs b => hsel j oj cs b hoj) hy h1
      have hfree' : ∀ k ok, ops[k]? = some ok → k ≠ i → (listed.setIfInBounds j true).getD k true = false →
          (∀ e ∈ ok.after, Region.binds md e = true → e.on ≠ i) → oi.apart ops ok = true := fun k ok hk hki hun hno => by
        refine hfree k ok hk hki ?_ hno
        by_cases hjk : j = k
        · subst hjk; exact hjun
        · rw [getD_set_ne true hjk] at hun; exact hun
      refine qOp_mono (fun a' h3 => ih (listed.setIfInBounds j true) a' (inv.set hj hjn) hfree' (ready_mono hr (Ne.symm hji)) h3.1 ?_) h2
      rw [Array.setIfInBounds_comm _ _ hji]
      exact h3.2
theorem wpAnyLQ_lex {n g : Nat} {Lq : Act → Prop} (hsel : Region.noSelect ops = true) (hs : Region.sinkB md ops n = true) (hc : Region.chainB md ops n = true) (hn : n < ops.size) :
    ∀ (l : List Oper) (k : Nat) (listed : Array Bool) (a : Act), (∀ j, j < l.length → l[j]? = ops[k + j]?) → k + l.length = n → HeadInv md ops n listed →
    Region.lexHead md ops g l.length k listed = true → wpQuiet P ops C Lq l a →
    wpAnyLQ P md ops C n (fun listed' a' => Region.seqB md ops g n listed' = true ∧ Lq a') l.length listed a
  | [], k, listed, a, _, hk, _, hB, h => by
    have : k = n := by simpa using hk
    subst this
    exact ⟨by simpa [Region.lexHead] using hB, h⟩
  | o :: l, k, listed, a, hl, hk, inv, hB, h => by
    have h0 : ops[k]? = some o := by simpa using (hl 0 (by simp)).symm
    simp only [List.length_cons, Region.lexHead, Bool.and_eq_true] at hB
    obtain ⟨⟨hr, hf⟩, hB'⟩ := hB
    have hkn : k < n := by simp only [List.length_cons] at hk; omega
    have hr' : k ∈ Region.ready md ops listed := by simpa using hr
    have hst : qOp P ops C k (wpQuiet P ops C Lq l) a := by unfold qOp; simp only [h0]; exact h
    obtain ⟨v, hy, hK⟩ := yieldsIn_of_qOp h0 hst
    exact wpAnyLQ_first h0 (Region.noSelect_spec hsel) hs hc hn hkn (fun listed' a' hL => seqB_ready hL.1) l.length listed a inv (Region.free_spec h0 hf) hr' hy
      (wpAnyLQ_lex hsel hs hc hn l (k + 1) _ _ (fun j hj => by have := hl (j + 1) (by simp; omega); simpa [Nat.add_assoc, Nat.add_comm 1 j] using this) (by simp only [List.length_cons] at hk; omega) (inv.set hr' hkn) hB' hK)
theorem wp_region_quiet_tail {id : Nat} {Q : Exit → Act → World → Prop} {a : Act} {w : World} {l : List Oper} (n : Nat) (hm : P.follows .mixedOrders = true) (hB : Region.lexTailB .any l.toArray n = true)
    (hC : C { w with drawn := w.drawn + 1 })
    (h : wpQuiet P l.toArray C (fun a' => ∀ w', C w' → wpList P l.toArray Q (l.drop n) a' w') (l.take n) a) : (Code.region id l.toArray true).wp P Q a w := by
  simp only [Region.lexTailB, Bool.and_eq_true, decide_eq_true_eq] at hB
  obtain ⟨⟨⟨⟨hsel, hn⟩, hs⟩, hc⟩, hlex⟩ := hB
  have hn' : n < l.length := by simpa using hn
  have htl : (l.take n).length = n := by simp; omega
  have hdl : (l.drop n).length = l.toArray.size - n := by simp
  have inv0 : HeadInv .any l.toArray n (Array.replicate l.toArray.size false) :=
    ⟨by simp, fun j oj _ hl => (by rw [getD_replicate_false] at hl; cases hl), fun t _ ht => getD_in (by simpa using ht) (getD_replicate_false _ _)⟩
  have H := wpAnyLQ_lex (md := .any) (g := l.toArray.size - n) hsel hs hc hn (l.take n) 0 _ a (fun j hj => by
    have hj' : j < n := by rw [htl] at hj; exact hj
    simp [hj']) (by simpa using htl) inv0 (by rw [htl]; exact hlex) h
  refine wp_region_any hm ?_
  have := wpAny_of_headQ (C := C) (Q' := Q) (g := l.toArray.size - n) (fun listed a' w' hw' hL => by
    have := wpAny_of_seq (md := .any) (Q' := Q) (l.drop n) n listed a' w' (fun j => by simp [List.getElem?_drop]) (by rw [hdl]; exact hL.1) (hL.2 w' hw')
    rwa [hdl] at this) _ _ _ _ hC H
  rw [htl, show n + (l.toArray.size - n) = l.toArray.size by omega] at this
  exact this
theorem region_pure_tail {id : Nat} {Q : Exit → Act → World → Prop} {a : Act} {w : World} {l : List Oper} (n : Nat) (hm : P.follows .mixedOrders = true) (hB : Region.lexTailB .any l.toArray n = true)
    (h : ∀ (I : Type) (_ : Nonempty I) (f : I → World), (∀ i, Below w.heap.size w (f i)) → Hid (∀ w', Below w.heap.size w w' → ∃ j, w' = f j) →
      wpQuiet P l.toArray (fun w' => ∃ i, w' = f i) (fun a' => ∀ i, wpList P l.toArray Q (l.drop n) a' (f i)) (l.take n) a) : (Code.region id l.toArray true).wp P Q a w := by
  let I := { w' : World // Below w.heap.size w w' }
  have hn : Nonempty I := ⟨⟨w, Below.refl _ _⟩⟩
  have h' := h I hn (fun i => i.val) (fun i => i.property) (fun w' hw => ⟨⟨w', hw⟩, rfl⟩)
  refine wp_region_quiet_tail (C := fun w' => ∃ i : I, w' = i.val) n hm hB ⟨⟨_, (Below.refl _ w).drew⟩, rfl⟩ ?_
  have e : (fun a' => ∀ i : I, wpList P l.toArray Q (l.drop n) a' i.val) = (fun a' => ∀ w', (∃ i : I, w' = i.val) → wpList P l.toArray Q (l.drop n) a' w') := by
    funext a'
    apply propext
    constructor
    · rintro hi w' ⟨i, rfl⟩; exact hi i
    · intro hi i; exact hi _ ⟨i, rfl⟩
  rw [e] at h'
  exact h'
end
end Go.Proofs.YtabffcplbjaklaaGreatDoor
namespace Go.Proofs.YtabffcplbjaklaaGreatDoor
open Go.RowKit
def hcells (v : Sha.W8) (lv : Value) (n : Int) : Array Value := #[.int .u32 v.a, .int .u32 v.b, .int .u32 v.c, .int .u32 v.d, .int .u32 v.e, .int .u32 v.f, .int .u32 v.g, .int .u32 v.h, lv, .int .i64 n]
def HashAt (base : Nat) (w : World) (g : Nat) (m : List UInt8) : Prop :=
  ∃ lv, base ≤ g ∧ w.heap[g]? = some (.cells (hcells (Sha.blocks Sha.start m) lv m.length) 99 (0, 0)) ∧ w.ownsRow base 5 1 lv (Sha.rest m).length (bytesV (Sha.rest m))
theorem HashAt.below {base : Nat} {w w' : World} {g : Nat} {m : List UInt8} (h : HashAt base w g m) (hb : Below w.heap.size w w') : HashAt base w' g m := by
  obtain ⟨lv, h1, h2, h3⟩ := h
  exact ⟨lv, h1, heap_below h2 hb, ownsRow_below h3 hb⟩
theorem info_byte : (Tryz.prog.info? 5).map (fun i => (i.zero, i.size, i.bytes)) = some (some (.int .u8 0), 1, 1) := by kernel_rfl
theorem ElemsAt.setCell {α : Type} {c : α → Value} {w : World} {a : Option Addr} {cap : Nat} {xs : List α} (h : ElemsAt (Shape.flat 1 (fun x => [c x]) (fun _ => rfl)) w a cap xs) (p : Addr) (hne : ∀ x, a = some x → x.block ≠ p.block) (u : Value) :
    ElemsAt (Shape.flat 1 (fun x => [c x]) (fun _ => rfl)) (w.setCell p u) a cap xs := by
  rcases h with h | ⟨b, off, rfl, hlt, hl, hm, hc⟩
  · exact .inl h
  · refine .inr ⟨b, off, rfl, by simpa [World.setCell] using hlt, hl, hm, fun i x hx => ?_⟩
    obtain ⟨cs, h1, h2⟩ := hc i x hx
    refine ⟨cs, h1, fun j v hj => ?_⟩
    have e : ∀ k, (w.setCell p u).cell? ⟨b, k, none⟩ = w.cell? ⟨b, k, none⟩ := fun k => World.cell?_of_block (heap_setCell_ne (hne _ rfl) u)
    rw [e]
    exact h2 j v hj
theorem mix_lit (st : Sha.W8) (hf : st.Fit) (b off cap : Nat) (l : List UInt8) (hl : l.length = 64) (w : World) (he : ElemsAt bytesS w (some ⟨b, off, none⟩) cap l) :
    Calls Tryz.prog 68 #[.agg #[.int .u32 st.a, .int .u32 st.b, .int .u32 st.c, .int .u32 st.d, .int .u32 st.e, .int .u32 st.f, .int .u32 st.g, .int .u32 st.h], .slice (some ⟨b, off, none⟩) 64 cap] w fun e w' =>
      e = .returned (.agg #[.int .u32 (Sha.mix st l).a, .int .u32 (Sha.mix st l).b, .int .u32 (Sha.mix st l).c, .int .u32 (Sha.mix st l).d, .int .u32 (Sha.mix st l).e, .int .u32 (Sha.mix st l).f, .int .u32 (Sha.mix st l).g, .int .u32 (Sha.mix st l).h]) ∧ Below w.heap.size w w' :=
  mix_any st hf b off cap l hl w he
theorem ElemsAt.drop {α : Type} {c : α → Value} {w : World} {b off cap : Nat} {xs : List α} (h : ElemsAt (Shape.flat 1 (fun x => [c x]) (fun _ => rfl)) w (some ⟨b, off, none⟩) cap xs) (k : Nat) (hk : k ≤ xs.length) :
    ElemsAt (Shape.flat 1 (fun x => [c x]) (fun _ => rfl)) w (some ⟨b, off + k, none⟩) (cap - k) (xs.drop k) := by
  rcases h with ⟨rfl, h1, h2⟩ | ⟨b', off', e, hlt, hl, hm, hc⟩
  · exact .inl ⟨by simp, by omega, by simp⟩
  · cases e
    refine .inr ⟨b, off + k, rfl, hlt, by simp; omega, by omega, fun i x hx => ?_⟩
    rw [List.getElem?_drop] at hx
    obtain ⟨cs, h1, h2⟩ := hc (k + i) x hx
    refine ⟨cs, h1, fun j u hj => ?_⟩
    have := h2 j u hj
    have e : off + k + i * (Shape.flat 1 (fun x => [c x]) (fun _ => rfl)).n + j = off + (k + i) * (Shape.flat 1 (fun x => [c x]) (fun _ => rfl)).n + j := by simp only [Shape.flat]; omega
    rw [e]; exact this
theorem ElemsAt.take {α : Type} {S : Shape α} {w : World} {a : Option Addr} {cap : Nat} {xs : List α} (h : ElemsAt S w a cap xs) (n : Nat) : ElemsAt S w a cap (xs.take n) := by
  rcases h with ⟨rfl, h⟩ | ⟨b, off, rfl, hlt, hl, hm, hc⟩
  · exact .inl ⟨by simp, h⟩
  · refine .inr ⟨b, off, rfl, hlt, by simp; omega, hm, fun i x hx => hc i x ?_⟩
    rw [List.getElem?_take] at hx
    split at hx
    · exact hx
    · cases hx
set_option maxRecDepth 100000 in
set_option maxHeartbeats 2000000 in
theorem write_any (base g : Nat) (m : List UInt8) (s : ByteArray) (w : World) (hbase : base ≤ w.heap.size) (hsz : m.length + s.size ≤ 140737488355200) (hh : HashAt base w g m) :
    Calls Tryz.prog 48 #[.pointer (some ⟨g, 0, none⟩), .string s] w fun e w' => e = .returned (.tuple #[]) ∧ HashAt base w' g (m ++ s.data.toList) ∧ Below base w w' := by
  obtain ⟨lv, hbg, hg, hown⟩ := hh
  have hlr := Sha.rest_length m
  generalize hst : Sha.blocks Sha.start m = st at *
  generalize hrl : Sha.rest m = rl at *
  have c8 := cell_of hg 8
  have c9 := cell_of hg 9
  have z8 := frozen_of hg 8
  have z9 := frozen_of hg 9
  simp [hcells] at c8 c9
  have hne := ownBlock_ne hown hg (by decide)
  have hown1 := Lib.hid (ownsRow_setCell_ne hown ⟨g, 9, none⟩ hne (.int .i64 (m.length + s.size)))
  have hg1 := Lib.hid (heap_setCell hg 9 (.int .i64 (m.length + s.size)))
  have hb1 := Lib.hid ((Below.refl base w).setCell (p := ⟨g, 9, none⟩) hbg (.int .i64 (m.length + s.size)))
  have hlt := lt_of_heap hg
  have HNE := Lib.hid hne
  have HR := Lib.hid hrl
  have HS := Lib.hid hst
  have HL := Lib.hid hlr
  have hlr' : rl.length < 64 := by omega
  obtain ⟨i0, hi, hz0, hz1, hz2⟩ := info_parts info_byte
  clear hg hrl hst hlr hown hne
  go_enter Tryz.func48, Tryz.ntmps48
  go_wp2_with (at_builtin; refine Lib.wpList_append_own_string _ rfl _ _ 44 9 rfl base 5 i0 Tryz.underlying44 Tryz.underlying9 hi hz0 hz1 hz2 lv _ _ rfl hown1.out s rfl (by simp [maxLen]; omega) (by omega) (by simp [World.setCell]; omega) ?_)
  intro v' w1 hown2 hgr2 _
  have hg2 : w1.heap[g]? = _ := (hgr2.block g (by simpa [World.setCell] using hlt) (by intro e; exact HNE.out e.symm)).trans hg1.out
  have hb2 : Below base w w1 := hb1.out.grown hgr2 (by simp [World.setCell]; omega) (fun k hk => (hown1.out.lt k hk).1)
  have hne2 := ownBlock_ne hown2 hg2 (by decide)
  have ha : bytesV rl ++ Lib.strCells s = bytesV (rl ++ s.data.toList) := by simp only [bytesV, List.map_append]; rfl
  rw [ha] at hown2
  have c8' := cell_of hg2 8
  have z8' := frozen_of hg2 8
  simp [hcells] at c8'
  obtain ⟨av, capv, hv', hel⟩ := elems_of_owned byteV hown2
  have hlen : (rl ++ s.data.toList).length = rl.length + s.size := by simp
  have hnb : ∀ x, av = some x → x.block ≠ g := by
    rintro x rfl e
    rw [hv'] at hne2
    exact hne2 (by simp [Value.ownBlock, e])
  rw [hv'] at hown2 ⊢
  have hel3 : Hid (ElemsAt bytesS _ av capv (rl ++ s.data.toList)) := Lib.hid (hel.setCell ⟨g, 8, none⟩ hnb (.slice av (rl ++ s.data.toList).length capv))
  have hg3 := Lib.hid (heap_setCell hg2 8 (.slice av (rl ++ s.data.toList).length capv))
  have hb3 := Lib.hid (hb2.setCell (p := ⟨g, 8, none⟩) hbg (.slice av (rl ++ s.data.toList).length capv))
  have HV := Lib.hid hv'
  have HNB := Lib.hid hnb
  have HLEN := Lib.hid hlen
  clear hown2
  generalize hall : rl ++ s.data.toList = all at *
  have HALL := Lib.hid hall
  clear hgr2 hg2 hb2 hne2 ha c8 z8 hel hv' hnb hall hlen c9 z9
  go_wp2_with fail
  go_loopg [] (all.length / 64) (fun k wr => ∃ (j : Nat) (a : Option Addr) (cap : Nat), j + k = all.length / 64 ∧ Below base w wr ∧ wr.heap[g]? = some (.cells (hcells (Sha.blocksN st all j) (.slice a (all.length - 64 * j) cap) (m.length + s.size)) 99 (0, 0)) ∧
    ElemsAt bytesS wr a cap (all.drop (64 * j)) ∧ ∀ x, a = some x → x.block ≠ g)
  case atStart => 
    refine ⟨0, av, capv, by omega, hb3.out, ?_, by simpa using hel3.out, HNB.out⟩
    rw [hg3.out]
    simp [hcells, Sha.blocksN]
  case round =>
    obtain ⟨j, a, cap, hj, hb, hg, he, hnb⟩ := hrel
    have hg' := Lib.hid hg
    have hb' := Lib.hid hb
    have he' := Lib.hid he
    have hnb' := Lib.hid hnb
    clear hel3 hg3 hb3 HNB hb hnb he
    by_cases hjk : j < all.length / 64
    · have hlen : (all.drop (64 * j)).length = all.length - 64 * j := by simp
      obtain ⟨b, off, ha, hbl, _⟩ := he'.out.byte (i := 0) (by omega)
      subst ha
      have c8 := cell_of hg 8
      simp [hcells] at c8
      clear hg
      have hge : (64 : Int) ≤ ((all.length - 64 * j : Nat) : Int) := by omega
      go_wp2_with fail
      have hfit : (Sha.blocksN st all j).Fit := Sha.blocksN_fit j all (by rw [← HS.out]; exact Sha.blocks_fit m Sha.start_fit)
      have hmix : Hid (Sha.blocksN st all (j + 1) = Sha.mix (Sha.blocksN st all j) ((all.drop (64 * j)).take 64)) := Sha.blocksN_succ j st all
      have hl64 : ((all.drop (64 * j)).take 64).length = 64 := by simp; omega
      have HL64 := Lib.hid hl64
      have HFIT := Lib.hid hfit
      have heT := Lib.hid (he'.out.take 64)
      generalize Sha.blocksN st all j = x at *
      clear hl64 hlen hfit
      refine region_pure_tail 13 (by kernel_rfl) (by kernel_rfl) fun I ne f hfb hback => ?_
      simp only [List.take_succ_cons, List.take_zero, List.drop_succ_cons, List.drop_zero]
      have hcg : ∀ i k, (f i).cell? ⟨g, k, none⟩ = wr.cell? ⟨g, k, none⟩ := fun i k => (hfb i).cell (lt_of_heap hg'.out)
      have d0 : ∀ i, (f i).cell? ⟨g, 0, none⟩ = some (.int .u32 x.a) := fun i => by rw [hcg, cell_of hg'.out]; rfl
      have d1 : ∀ i, (f i).cell? ⟨g, 1, none⟩ = some (.int .u32 x.b) := fun i => by rw [hcg, cell_of hg'.out]; rfl
      have d2 : ∀ i, (f i).cell? ⟨g, 2, none⟩ = some (.int .u32 x.c) := fun i => by rw [hcg, cell_of hg'.out]; rfl
      have d3 : ∀ i, (f i).cell? ⟨g, 3, none⟩ = some (.int .u32 x.d) := fun i => by rw [hcg, cell_of hg'.out]; rfl
      have d4 : ∀ i, (f i).cell? ⟨g, 4, none⟩ = some (.int .u32 x.e) := fun i => by rw [hcg, cell_of hg'.out]; rfl
      have d5 : ∀ i, (f i).cell? ⟨g, 5, none⟩ = some (.int .u32 x.f) := fun i => by rw [hcg, cell_of hg'.out]; rfl
      have d6 : ∀ i, (f i).cell? ⟨g, 6, none⟩ = some (.int .u32 x.g) := fun i => by rw [hcg, cell_of hg'.out]; rfl
      have d7 : ∀ i, (f i).cell? ⟨g, 7, none⟩ = some (.int .u32 x.h) := fun i => by rw [hcg, cell_of hg'.out]; rfl
      have d8 : ∀ i, (f i).cell? ⟨g, 8, none⟩ = some (.slice (some ⟨b, off, none⟩) (all.length - 64 * j) cap) := fun i => by rw [hcg, cell_of hg'.out]; rfl
      have hcap : (64 : Int) ≤ cap := by
        rcases he'.out with ⟨h0, _⟩ | ⟨_, _, _, _, hlc, _⟩
        · have := congrArg List.length h0; simp at this; omega
        · simp at hlc; omega
      have hfb' := Lib.hid hfb
      clear hfb hcg c8
      repeat (quiet_step ((go_at_call 68; exact pure_of hfb'.out hback (mix_lit x HFIT.out b off cap ((all.drop (64 * j)).take 64) HL64.out _ (heT.out.mono (hfb'.out _))))))
      refine wpQuiet_nil ?_
      intro i
      have hfi := hfb'.out i
      have hg3 : (f i).heap[g]? = _ := heap_below hg'.out hfi
      have he3 := Lib.hid (he'.out.mono hfi)
      have hb3 := Lib.hid (hb'.out.trans (hfi.mono (Nat.le_trans hbase hb'.out.size)))
      generalize f i = w3 at *
      clear hfi hback hfb' d0 d1 d2 d3 d4 d5 d6 d7 d8 hg' he' hb' heT
      have z0 := frozen_of hg3 0
      have z1 := frozen_of hg3 1
      have z2 := frozen_of hg3 2
      have z3 := frozen_of hg3 3
      have z4 := frozen_of hg3 4
      have z5 := frozen_of hg3 5
      have z6 := frozen_of hg3 6
      have z7 := frozen_of hg3 7
      have z8 := frozen_of hg3 8
      have c0 := cell_of hg3 0
      have c1 := cell_of hg3 1
      have c2 := cell_of hg3 2
      have c3 := cell_of hg3 3
      have c4 := cell_of hg3 4
      have c5 := cell_of hg3 5
      have c6 := cell_of hg3 6
      have c7 := cell_of hg3 7
      have c8 := cell_of hg3 8
      simp [hcells] at c0 c1 c2 c3 c4 c5 c6 c7 c8
      generalize hY : Sha.mix x ((all.drop (64 * j)).take 64) = y at *
      have HG3 := Lib.hid hg3
      clear hg3 HL64 HFIT hY
      have hcapn : 64 ≤ cap := by omega
      have hbg2 : b ≠ g := hnb'.out ⟨b, off, none⟩ rfl
      by_cases hce : cap = 64
      · have hd : all.drop (64 * (j + 1)) = [] := by
          rcases he3.out with ⟨h0, _⟩ | ⟨_, _, _, _, hlc, _⟩
          · have := congrArg List.length h0; simp at this
            apply List.drop_eq_nil_of_le; omega
          · simp at hlc
            apply List.drop_eq_nil_of_le; omega
        have HD := Lib.hid hd
        have hll : Hid (all.length - 64 * j - 64 = 0) := by have := congrArg List.length hd; simp at this; show _ = _; omega
        have hce' : ((cap : Nat) : Int) = 64 := by omega
        clear hd
        go_wp2_with fail
        go_roundg (gk - 1)
        case measure => omega
        case rel =>
          refine ⟨j + 1, some ⟨b, off, none⟩, cap - 64, by omega, (((((((((hb3.out.setCell (p := ⟨g, 0, none⟩) hbg _).setCell (p := ⟨g, 1, none⟩) hbg _).setCell (p := ⟨g, 2, none⟩) hbg _).setCell (p := ⟨g, 3, none⟩) hbg _).setCell (p := ⟨g, 4, none⟩) hbg _).setCell (p := ⟨g, 5, none⟩) hbg _).setCell (p := ⟨g, 6, none⟩) hbg _).setCell (p := ⟨g, 7, none⟩) hbg _).setCell (p := ⟨g, 8, none⟩) hbg _), ?_, ?_, hnb'.out⟩
          · rw [heap_setCell (heap_setCell (heap_setCell (heap_setCell (heap_setCell (heap_setCell (heap_setCell (heap_setCell (heap_setCell HG3.out 0 _) 1 _) 2 _) 3 _) 4 _) 5 _) 6 _) 7 _) 8 _, hmix.out, show all.length - 64 * (j + 1) = all.length - 64 * j - 64 by omega]
            simp [hcells]
            omega
          · rw [HD.out]; exact .inl ⟨rfl, by have : maxLen = 9223372036854775807 := rfl; omega, by simp⟩
      · have hce' : (64 : Int) < cap := by omega
        go_wp2_with fail
        go_roundg (gk - 1)
        case measure => omega
        case rel =>
          refine ⟨j + 1, some ⟨b, off + 64, none⟩, cap - 64, by omega, (((((((((hb3.out.setCell (p := ⟨g, 0, none⟩) hbg _).setCell (p := ⟨g, 1, none⟩) hbg _).setCell (p := ⟨g, 2, none⟩) hbg _).setCell (p := ⟨g, 3, none⟩) hbg _).setCell (p := ⟨g, 4, none⟩) hbg _).setCell (p := ⟨g, 5, none⟩) hbg _).setCell (p := ⟨g, 6, none⟩) hbg _).setCell (p := ⟨g, 7, none⟩) hbg _).setCell (p := ⟨g, 8, none⟩) hbg _), ?_, ?_, by rintro x e; cases e; exact hbg2⟩
          · rw [heap_setCell (heap_setCell (heap_setCell (heap_setCell (heap_setCell (heap_setCell (heap_setCell (heap_setCell (heap_setCell HG3.out 0 _) 1 _) 2 _) 3 _) 4 _) 5 _) 6 _) 7 _) 8 _, hmix.out, show all.length - 64 * (j + 1) = all.length - 64 * j - 64 by omega]
            simp [hcells]
          · have hd := he3.out.drop 64 (by simp; omega)
            rw [List.drop_drop, show 64 * j + 64 = 64 * (j + 1) by omega] at hd
            exact (ElemsAt.setCell (c := byteV) (ElemsAt.setCell (c := byteV) (ElemsAt.setCell (c := byteV) (ElemsAt.setCell (c := byteV) (ElemsAt.setCell (c := byteV) (ElemsAt.setCell (c := byteV) (ElemsAt.setCell (c := byteV) (ElemsAt.setCell (c := byteV) (ElemsAt.setCell (c := byteV) hd ⟨g, 0, none⟩ (by rintro x e; cases e; exact hbg2) _) ⟨g, 1, none⟩ (by rintro x e; cases e; exact hbg2) _) ⟨g, 2, none⟩ (by rintro x e; cases e; exact hbg2) _) ⟨g, 3, none⟩ (by rintro x e; cases e; exact hbg2) _) ⟨g, 4, none⟩ (by rintro x e; cases e; exact hbg2) _) ⟨g, 5, none⟩ (by rintro x e; cases e; exact hbg2) _) ⟨g, 6, none⟩ (by rintro x e; cases e; exact hbg2) _) ⟨g, 7, none⟩ (by rintro x e; cases e; exact hbg2) _) ⟨g, 8, none⟩ (by rintro x e; cases e; exact hbg2) _)
    · have ej : j = all.length / 64 := by omega
      have hlt64 : ((all.length - 64 * j : Nat) : Int) < 64 := by omega
      have hdl : (all.drop (64 * j)).length = all.length - 64 * j := by simp
      have HDL := Lib.hid hdl
      have EJ := Lib.hid ej
      have c8 := cell_of hg 8
      have z8 := frozen_of hg 8
      simp [hcells] at c8
      have hbw := hb'.out.size
      clear hg hdl ej
      go_wp2_with (at_builtin; refine wpList_append_flat byteV byteV_one rfl _ _ 44 rfl base 5 (.int .u8 0) 1 Tryz.underlying44 info_byte rfl (.slice none 0 0) 0 [] rfl (World.ownsRow_nil _ _ _ _) a (all.length - 64 * j) cap (all.drop (64 * j)) HDL.out rfl he'.out (by omega) (by decide) (by omega) ?_)
      intro v2 w4 hown4 hgr4
      replace hown4 : w4.ownsRow base 5 1 v2 (all.length - 64 * j) ((all.drop (64 * j)).map byteV) := by first | exact hown4 | (rw [List.map_drop]; exact hown4) | simpa using hown4
      have hg4 : w4.heap[g]? = _ := (hgr4.block g (lt_of_heap hg'.out) (by simp [Value.ownBlock])).trans hg'.out
      have hb4 : Below base w w4 := hb'.out.grown hgr4 (by omega) (fun k hk => by simp [Value.ownBlock] at hk)
      have hne4 := ownBlock_ne hown4 hg4 (by decide)
      obtain ⟨a4, cap4, hv4, _⟩ := elems_of_owned byteV hown4
      rw [hv4, HDL.out] at hown4 hne4
      rw [hv4, HDL.out]
      have c8' := cell_of hg4 8
      have z8' := frozen_of hg4 8
      simp [hcells] at c8'
      have hg5 := Lib.hid (heap_setCell hg4 8 (.slice a4 (all.length - 64 * j) cap4))
      have hown5 := Lib.hid (ownsRow_setCell_ne hown4 ⟨g, 8, none⟩ hne4 (.slice a4 (all.length - 64 * j) cap4))
      have hb5 := Lib.hid (hb4.setCell (p := ⟨g, 8, none⟩) hbg (.slice a4 (all.length - 64 * j) cap4))
      clear hgr4 hg4 hb4 hown4 hne4 hv4 c8 z8
      go_wp2
      go_end0
      refine ⟨rfl, ⟨.slice a4 (all.length - 64 * j) cap4, hbg, ?_, ?_⟩, hb5.out⟩
      · rw [hg5.out, Sha.blocks_append, HS.out, HR.out, HALL.out, EJ.out]
        simp [hcells, Sha.blocks]
      · have e : Sha.rest (m ++ s.data.toList) = all.drop (64 * j) := by rw [Sha.rest_append, HR.out, HALL.out, EJ.out]; rfl
        rw [e, HDL.out]
        exact hown5.out
end Go.Proofs.YtabffcplbjaklaaGreatDoor
