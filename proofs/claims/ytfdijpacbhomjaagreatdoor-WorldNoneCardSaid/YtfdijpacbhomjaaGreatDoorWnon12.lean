/-
  A disk, in plain words: what is synced, what was written since; what its methods answer.
  Pointers, compared.
  What stays of a memory.
  What an operation leaves alone in memory.
  Sums within bounds; the lesser and the greater.
  The steps of a walk, each in one lemma.
  The walks of a disk's methods.
  The walk of a disk's Sync.
  The walks of the epoch's sector.
  A function that is to do something behind its body.
  A function that is to do something behind its body: its walk.
  The walk of epoch.Next.
  The program's types in memory.
  The walks of header: its fields, its check.
  The walks of header: its check.
  The walks of header: it is verified.
  The walk of header.Take.
  The walk of header.Take: what is no header.
  The walks of the document's answer for layer 1: numbers as bytes, and back; lists of texts.
  What header.Take answers, as a header and a number.
-/
import Derived.Test.YtfdijpacbhomjaaGreatDoorWnon11
import Derived.Test.YtfdijpacbhomjaaGreatDoorWnon10
import Derived.Test.YtfdijpacbhomjaaGreatDoorWnon03
import Derived.Test.YtfdijpacbhomjaaGreatDoorWnon06
import Derived.Defers
import Derived.Test.YtfdijpacbhomjaaGreatDoorWnon01
import Derived.Deep.RegionHeld3
import Derived.Deep.CutRange
set_option linter.all false
namespace Go.Proofs.YtfdijpacbhomjaaGreatDoor
open Go.RowKit Abs
abbrev LastL := List (Nat × List UInt8 × Nat)
structure Dsk where
  old : List (List UInt8)
  last : LastL
  clock : Nat
  fuse : Int
  dead : Bool
def lastOf (L : LastL) (i : Nat) : Option (List UInt8) := (L.find? fun x => x.1 == i).map (·.2.1)
def ents (L : LastL) : List MapEntry := L.map fun x => ⟨.int .i64 (x.1 : Nat), .string (str x.2.1), x.2.2⟩
def putL (L : LastL) (i : Nat) (s : List UInt8) (c : Nat) : LastL := match lastOf L i with
  | some _ => L.map fun x => if x.1 = i then (i, s, x.2.2) else x
  | none => L ++ [(i, s, c)]
def putC (L : LastL) (i c : Nat) : Nat := match lastOf L i with | some _ => c | none => c + 1
structure Dsk.Ok (d : Dsk) : Prop where
  n : d.old.length ≤ 1024
  pos : 0 < d.old.length
  size : ∀ s ∈ d.old, s.length = 256
  keys : (d.last.map (·.1)).Nodup
  born : (d.last.map (·.2.2)).Nodup
  clock : ∀ x ∈ d.last, x.2.2 < d.clock
  within : ∀ x ∈ d.last, x.1 < d.old.length ∧ x.2.1.length = 256
  fuse : -1 ≤ d.fuse ∧ d.fuse ≤ 9223372036854775807
  old_big : True
def Dsk.may (d : Dsk) (i : Int) : Int := if d.dead = true then 7 else if i < 0 ∨ (d.old.length : Int) ≤ i then 10 else 0
def Dsk.sector (d : Dsk) (i : Nat) : List UInt8 := (lastOf d.last i).getD ((d.old[i]?).getD [])
def Dsk.read (d : Dsk) (i : Int) : List UInt8 × Int := if d.may i = 0 then (d.sector i.toNat, 0) else ([], d.may i)
def Dsk.burnt (d : Dsk) : Dsk := if d.fuse = 0 then { d with dead := true } else { d with fuse := max (d.fuse - 1) (-1) }
def filled (s : List UInt8) : List UInt8 := s ++ List.replicate (256 - s.length) 0
def Dsk.put (d : Dsk) (i : Nat) (s : List UInt8) : Dsk := { d with last := putL d.last i s d.clock, clock := putC d.last i d.clock }
def Dsk.write (d : Dsk) (i : Int) (s : List UInt8) : Dsk × Int :=
  if d.may i ≠ 0 then (d, d.may i) else if 256 < s.length then (d, 1) else if d.fuse = 0 then (d.burnt, 7) else (d.burnt.put i.toNat (filled s), 0)
def syncV (old : List (List UInt8)) (L : LastL) (seen : List Nat) : List (List UInt8) :=
  old.mapIdx fun i o => match L.find? fun x => x.1 == i && seen.contains x.2.2 with | some x => x.2.1 | none => o
def Dsk.synced (d : Dsk) : Dsk := { d with old := d.old.mapIdx fun i o => (lastOf d.last i).getD o, last := [] }
def Dsk.sync (d : Dsk) : Dsk × Int := if d.may 0 ≠ 0 then (d, d.may 0) else if d.fuse = 0 then (d.burnt, 7) else (d.burnt.synced, 0)
theorem find_congr {α : Type} {p q : α → Bool} : ∀ {l : List α}, (∀ x ∈ l, p x = q x) → l.find? p = l.find? q
  | [], _ => rfl
  | a :: l, h => by
    simp only [List.find?_cons, h a List.mem_cons_self, find_congr fun x hx => h x (List.mem_cons_of_mem _ hx)]
theorem lastOf_none {L : LastL} {i : Nat} (h : lastOf L i = none) : ∀ x ∈ L, x.1 ≠ i := by
  unfold lastOf at h
  rw [Option.map_eq_none_iff, List.find?_eq_none] at h
  exact fun x hx e => h x hx (by simpa using e)
theorem lastOf_some {L : LastL} {i : Nat} {s : List UInt8} (h : lastOf L i = some s) : ∃ b, (i, s, b) ∈ L := by
  unfold lastOf at h
  rw [Option.map_eq_some_iff] at h
  obtain ⟨x, hx, rfl⟩ := h
  have h1 := List.mem_of_find?_eq_some hx
  have h2 := List.find?_some hx
  simp only [beq_iff_eq] at h2
  exact ⟨x.2.2, by rw [← h2]; exact h1⟩
theorem nodup_fst {L : LastL} (h : (L.map (·.1)).Nodup) {x y : Nat × List UInt8 × Nat} (hx : x ∈ L) (hy : y ∈ L) (e : x.1 = y.1) : x = y := by
  induction L with
  | nil => cases hx
  | cons a L ih =>
    rw [List.map_cons, List.nodup_cons] at h
    rcases List.mem_cons.1 hx with rfl | hx' <;> rcases List.mem_cons.1 hy with rfl | hy'
    · rfl
    · exact absurd (List.mem_map.2 ⟨y, hy', e.symm⟩) h.1
    · exact absurd (List.mem_map.2 ⟨x, hx', e⟩) h.1
    · exact ih h.2 hx' hy'
theorem ents_findNow (i : Nat) : ∀ (L : LastL) (k : Nat), (lastOf L i = none ∧ Instr.findNow (.int .i64) (.int .i64 (i : Nat)) (ents L) k = some none) ∨
    ∃ j x, lastOf L i = some x.2.1 ∧ x.1 = i ∧ L[j]? = some x ∧ Instr.findNow (.int .i64) (.int .i64 (i : Nat)) (ents L) k = some (some (k + j, .string (str x.2.1)))
  | [], k => .inl ⟨rfl, rfl⟩
  | y :: L, k => by
    by_cases e : y.1 = i
    · right
      refine ⟨0, y, ?_, e, rfl, ?_⟩
      · unfold lastOf; rw [List.find?_cons_of_pos (by simpa using e)]; rfl
      · simp [ents, Instr.findNow, Instr.sameNow, e]
    · have h1 : lastOf (y :: L) i = lastOf L i := by unfold lastOf; rw [List.find?_cons_of_neg (by simpa using e)]
      have h2 : Instr.findNow (.int .i64) (.int .i64 (i : Nat)) (ents (y :: L)) k = Instr.findNow (.int .i64) (.int .i64 (i : Nat)) (ents L) (k + 1) := by
        have e' : ((i : Int) == (y.1 : Int)) = false := by simp; omega
        simp only [ents, List.map_cons, Instr.findNow, Instr.sameNow, if_true, e']
      rw [h1, h2]
      rcases ents_findNow i L (k + 1) with h | ⟨j, x, h3, h4, h5, h6⟩
      · exact .inl h
      · exact .inr ⟨j + 1, x, h3, h4, by simpa using h5, by rw [h6]; congr 3; omega⟩
theorem kt_map : Tryz.prog.underlying 128 = some (.map 3 9) := Tryz.underlying128
theorem look_dsk {get : Nat → Option Blk} {q : Nat} {r : Bool} {L : LastL} {c : Nat} (h : get q = some (.kv r (ents L) c)) (i : Nat) :
    aLookup Tryz.prog get 128 (.map (some q)) (.int .i64 (i : Nat)) true = some (.tuple #[.string (str ((lastOf L i).getD [])), .bool (lastOf L i).isSome]) := by
  have hi : Tryz.prog.underlying 3 = some (.int .i64) := Tryz.underlying3
  have hs : Tryz.prog.info? 9 = some Tryz.t9 := inf_Str
  have hz : Tryz.t9.zero = some (.string ⟨#[]⟩) := rfl
  unfold aLookup aFind aKV
  rw [kt_map]
  simp only [hs, hz, flat, if_true, h, hi, aKey, decide_true]
  rcases ents_findNow i L 0 with ⟨h1, h2⟩ | ⟨j, x, h1, _, _, h2⟩
  · rw [h1, h2]; rfl
  · rw [h1, h2]; rfl
theorem upd_dsk {m : Mem} {q : Nat} {L : LastL} {c : Nat} (h : m.get q = some (.kv false (ents L) c)) (hk : (L.map (·.1)).Nodup) (i : Nat) (s : List UInt8) :
    aMapUpdate Tryz.prog m 128 (.map (some q)) (.int .i64 (i : Nat)) (.string (str s)) = some (m.set q (some (.kv false (ents (putL L i s c)) (putC L i c)))) := by
  have hi : Tryz.prog.underlying 3 = some (.int .i64) := Tryz.underlying3
  unfold aMapUpdate aFind
  rw [kt_map]
  simp only [h, flat, if_true, hi, aKey, decide_true]
  rcases ents_findNow i L 0 with ⟨h1, h2⟩ | ⟨j, x, h1, hx, hj, h2⟩
  · rw [h2]
    simp only [putL, putC, h1]
    simp [ents]
  · rw [h2]
    simp only [putL, putC, h1, Nat.zero_add]
    refine congrArg (fun l => some (m.set q (some (Blk.kv false l c)))) ?_
    apply List.ext_getElem?
    intro k
    unfold ents
    rw [List.getElem?_modify]
    simp only [List.getElem?_map]
    cases hg : L[k]? with
    | none => simp
    | some y =>
      by_cases e : j = k
      · subst e
        rw [hj] at hg; cases hg
        simp [hx]
      · have : y.1 ≠ i := fun e2 => by
          obtain ⟨hxl, hxe⟩ := List.getElem?_eq_some_iff.1 hj
          obtain ⟨hyl, hye⟩ := List.getElem?_eq_some_iff.1 hg
          have hp := List.pairwise_iff_getElem.1 hk
          rcases Nat.lt_trichotomy j k with hlt | he | hgt
          · exact hp j k (by simpa using hxl) (by simpa using hyl) hlt (by simp [hxe, hye, hx, e2])
          · exact e he
          · exact hp k j (by simpa using hyl) (by simpa using hxl) hgt (by simp [hxe, hye, hx, e2])
        simp [e, this]
theorem clear_dsk {m : Mem} {q : Nat} {es : List MapEntry} {c : Nat} (h : m.get q = some (.kv false es c)) : aClear Tryz.prog m 128 (.map (some q)) = some (m.set q (some (.kv false (ents []) c))) := by
  unfold aClear
  rw [kt_map]
  simp only [h]
  rfl
theorem range_dsk {m : Mem} {q : Nat} {r : Bool} {es : List MapEntry} {c : Nat} (h : m.get q = some (.kv r es c)) : aRange Tryz.prog m 128 (.map (some q)) = some (.pointer (some ⟨m.size, 0, none⟩), m.push (.it false q c [] c)) := by
  unfold aRange
  rw [kt_map]
  simp only [h]
theorem putL_map (L : LastL) (i : Nat) (s : List UInt8) (c : Nat) : ((putL L i s c).map (·.1) = L.map (·.1) ∧ (putL L i s c).map (·.2.2) = L.map (·.2.2) ∧ putC L i c = c) ∨ (lastOf L i = none ∧ putL L i s c = L ++ [(i, s, c)] ∧ putC L i c = c + 1) := by
  unfold putL putC
  cases h : lastOf L i with
  | none => exact .inr ⟨rfl, rfl, rfl⟩
  | some t =>
    left
    refine ⟨?_, ?_, rfl⟩ <;> simp only [List.map_map] <;> apply List.map_congr_left <;> intro x _ <;> simp only [Function.comp] <;> split <;> simp_all
theorem putL_mem {L : LastL} {i : Nat} {s : List UInt8} {c : Nat} {x : Nat × List UInt8 × Nat} (h : x ∈ putL L i s c) : x ∈ L ∨ (x.1 = i ∧ x.2.1 = s ∧ ((x.2.2 = c ∧ lastOf L i = none) ∨ ∃ t, (i, t, x.2.2) ∈ L)) := by
  unfold putL at h
  split at h
  · rw [List.mem_map] at h
    obtain ⟨y, hy, rfl⟩ := h
    split
    · rename_i e
      exact .inr ⟨rfl, rfl, .inr ⟨y.2.1, by rw [← e]; exact hy⟩⟩
    · exact .inl hy
  · rename_i hn
    rw [List.mem_append, List.mem_singleton] at h
    rcases h with h | rfl
    · exact .inl h
    · exact .inr ⟨rfl, rfl, .inl ⟨rfl, hn⟩⟩
theorem Dsk.Ok.burnt {d : Dsk} (h : d.Ok) : d.burnt.Ok := by
  unfold Dsk.burnt
  split
  · exact ⟨h.n, h.pos, h.size, h.keys, h.born, h.clock, h.within, h.fuse, trivial⟩
  · have hf := h.fuse
    exact ⟨h.n, h.pos, h.size, h.keys, h.born, h.clock, h.within, by simp only; omega, trivial⟩
theorem burnt_old (d : Dsk) : d.burnt.old = d.old := by unfold Dsk.burnt; split <;> rfl
theorem burnt_last (d : Dsk) : d.burnt.last = d.last := by unfold Dsk.burnt; split <;> rfl
theorem burnt_clock (d : Dsk) : d.burnt.clock = d.clock := by unfold Dsk.burnt; split <;> rfl
theorem Dsk.Ok.put {d : Dsk} (h : d.Ok) {i : Nat} (hi : i < d.old.length) {s : List UInt8} (hs : s.length = 256) : (d.put i s).Ok := by
  unfold Dsk.put
  refine ⟨h.n, h.pos, h.size, ?_, ?_, fun x hx => ?_, fun x hx => ?_, h.fuse, trivial⟩
  · rcases putL_map d.last i s d.clock with ⟨h1, _, _⟩ | ⟨h1, h2, _⟩
    · simp only [h1]; exact h.keys
    · simp only [h2, List.map_append, List.map_cons, List.map_nil]
      rw [List.nodup_append]
      refine ⟨h.keys, by simp, fun a ha b hb => ?_⟩
      rw [List.mem_singleton] at hb
      obtain ⟨x, hx, rfl⟩ := List.mem_map.1 ha
      subst hb
      exact lastOf_none h1 x hx
  · rcases putL_map d.last i s d.clock with ⟨_, h1, _⟩ | ⟨h1, h2, _⟩
    · simp only [h1]; exact h.born
    · simp only [h2, List.map_append, List.map_cons, List.map_nil]
      rw [List.nodup_append]
      refine ⟨h.born, by simp, fun a ha b hb => ?_⟩
      rw [List.mem_singleton] at hb
      obtain ⟨x, hx, rfl⟩ := List.mem_map.1 ha
      subst hb
      have := h.clock x hx
      omega
  · simp only at hx ⊢
    rcases putL_map d.last i s d.clock with ⟨_, _, h1⟩ | ⟨h1, _, h2⟩
    · rw [h1]
      rcases putL_mem hx with hx | ⟨_, _, ⟨h3, h4⟩ | ⟨t, ht⟩⟩
      · exact h.clock x hx
      · unfold putC at h1; rw [h4] at h1; simp at h1
      · exact h.clock (i, t, x.2.2) ht
    · rw [h2]
      rcases putL_mem hx with hx | ⟨_, _, ⟨h3, h4⟩ | ⟨t, ht⟩⟩
      · have := h.clock x hx; omega
      · omega
      · have := h.clock (i, t, x.2.2) ht; simp only at this; omega
  · simp only at hx ⊢
    rcases putL_mem hx with hx | ⟨h1, h2, _⟩
    · exact h.within x hx
    · rw [h1, h2]; exact ⟨hi, hs⟩
theorem Dsk.Ok.sector {d : Dsk} (h : d.Ok) {i : Nat} (hi : i < d.old.length) : (d.sector i).length = 256 := by
  unfold Dsk.sector
  cases hl : lastOf d.last i with
  | some s =>
    obtain ⟨b, hb⟩ := lastOf_some hl
    exact (h.within _ hb).2
  | none =>
    rw [List.getElem?_eq_getElem hi]
    exact h.size _ (List.getElem_mem hi)
theorem filled_len {s : List UInt8} (h : s.length ≤ 256) : (filled s).length = 256 := by unfold filled; simp; omega
theorem Dsk.Ok.synced {d : Dsk} (h : d.Ok) : d.synced.Ok := by
  unfold Dsk.synced
  refine ⟨by simpa using h.n, by simpa using h.pos, fun s hs => ?_, by simp, by simp, fun x hx => by simp at hx, fun x hx => by simp at hx, h.fuse, trivial⟩
  simp only at hs
  rw [List.mem_mapIdx] at hs
  obtain ⟨i, hi, rfl⟩ := hs
  have := h.sector hi
  unfold Dsk.sector at this
  rw [List.getElem?_eq_getElem hi] at this
  exact this
theorem syncV_nil (old : List (List UInt8)) (L : LastL) : syncV old L [] = old := by
  unfold syncV
  have : ∀ i : Nat, L.find? (fun x => x.1 == i && ([] : List Nat).contains x.2.2) = none := fun i => by rw [List.find?_eq_none]; simp
  simp only [this]
  apply List.ext_getElem?
  intro i
  simp
theorem syncV_len (old : List (List UInt8)) (L : LastL) (seen : List Nat) : (syncV old L seen).length = old.length := by unfold syncV; simp
theorem syncV_step {old : List (List UInt8)} {L : LastL} {seen : List Nat} (hk : (L.map (·.1)).Nodup) {x : Nat × List UInt8 × Nat} (hx : x ∈ L) : (syncV old L seen).set x.1 x.2.1 = syncV old L (seen ++ [x.2.2]) ∨ ∃ y ∈ L, y ≠ x ∧ y.2.2 = x.2.2 := by
  by_cases hd : ∃ y ∈ L, y ≠ x ∧ y.2.2 = x.2.2
  · exact .inr hd
  · left
    apply List.ext_getElem?
    intro i
    rw [List.getElem?_set]
    unfold syncV
    simp only [List.length_mapIdx, List.getElem?_mapIdx]
    cases ho : old[i]? with
    | none =>
      have : ¬ i < old.length := by have := List.getElem?_eq_none_iff.1 ho; omega
      by_cases e : x.1 = i
      · simp [e, this]
      · simp [e]
    | some o =>
      have hlt : i < old.length := (List.getElem?_eq_some_iff.1 ho).1
      by_cases e : x.1 = i
      · have hf : L.find? (fun y => y.1 == i && (seen ++ [x.2.2]).contains y.2.2) = some x := by
          have hex : L.find? (fun y => y.1 == i && (seen ++ [x.2.2]).contains y.2.2) ≠ none := by
            rw [Ne, List.find?_eq_none]
            intro h
            exact h x hx (by simp [e])
          obtain ⟨y, hy⟩ := Option.ne_none_iff_exists'.1 hex
          have h1 := List.mem_of_find?_eq_some hy
          have h2 := List.find?_some hy
          simp only [Bool.and_eq_true, beq_iff_eq] at h2
          rw [hy, nodup_fst hk h1 hx (by rw [h2.1, e])]
        rw [if_pos e, if_pos (by rw [e]; exact hlt), Option.map_some, hf]
      · simp only [e, if_false, Option.map_some]
        congr 1
        have : L.find? (fun y => y.1 == i && seen.contains y.2.2) = L.find? (fun y => y.1 == i && (seen ++ [x.2.2]).contains y.2.2) := by
          apply find_congr
          intro y hy
          by_cases e2 : y.1 = i
          · have : y.2.2 ≠ x.2.2 := fun h => hd ⟨y, hy, fun h' => e (by rw [← h']; exact e2), h⟩
            simp [this]
          · have : (y.1 == i) = false := by simpa using e2
            rw [this]; rfl
        rw [this]
theorem syncV_all {old : List (List UInt8)} {L : LastL} {seen : List Nat} (h : aLeft (ents L) seen = []) : syncV old L seen = old.mapIdx fun i o => (lastOf L i).getD o := by
  have hall : ∀ x ∈ L, seen.contains x.2.2 = true := fun x hx => by
    unfold aLeft at h
    rw [List.filter_eq_nil_iff] at h
    have := h ⟨.int .i64 (x.1 : Nat), .string (str x.2.1), x.2.2⟩ (List.mem_map.2 ⟨x, hx, rfl⟩)
    simpa using this
  unfold syncV
  apply List.ext_getElem?
  intro i
  simp only [List.getElem?_mapIdx]
  cases ho : old[i]? with
  | none => rfl
  | some o =>
    simp only [Option.map_some]
    congr 1
    have : L.find? (fun y => y.1 == i && seen.contains y.2.2) = L.find? (fun y => y.1 == i) := by
      apply find_congr
      intro y hy
      rw [hall y hy, Bool.and_true]
    rw [this]
    unfold lastOf
    cases L.find? (fun y => y.1 == i) <;> rfl
theorem aLeft_mem {L : LastL} {seen : List Nat} {e : MapEntry} (h : e ∈ aLeft (ents L) seen) : ∃ x ∈ L, e = ⟨.int .i64 (x.1 : Nat), .string (str x.2.1), x.2.2⟩ ∧ seen.contains x.2.2 = false := by
  unfold aLeft at h
  rw [List.mem_filter] at h
  obtain ⟨h1, h2⟩ := h
  obtain ⟨x, hx, rfl⟩ := List.mem_map.1 h1
  exact ⟨x, hx, rfl, by simpa using h2⟩
theorem aLeft_less {L : LastL} {seen : List Nat} {e : MapEntry} (h : e ∈ aLeft (ents L) seen) : (aLeft (ents L) (seen ++ [e.born])).length < (aLeft (ents L) seen).length := by
  have : aLeft (ents L) (seen ++ [e.born]) = (aLeft (ents L) seen).filter fun x => !(x.born == e.born) := by
    unfold aLeft
    rw [List.filter_filter]
    apply List.filter_congr
    intro x _
    cases h1 : seen.contains x.born <;> cases h2 : (x.born == e.born) <;> simp_all
  rw [this]
  exact List.length_filter_lt_length_iff_exists.2 ⟨e, h, by simp⟩
theorem ents_find {L : LastL} (hb : (L.map (·.2.2)).Nodup) {x : Nat × List UInt8 × Nat} (hx : x ∈ L) : (ents L).find? (fun e => e.born == x.2.2) = some ⟨.int .i64 (x.1 : Nat), .string (str x.2.1), x.2.2⟩ := by
  induction L with
  | nil => cases hx
  | cons a L ih =>
    rw [List.map_cons, List.nodup_cons] at hb
    unfold ents
    rw [List.map_cons]
    rcases List.mem_cons.1 hx with rfl | hx'
    · rw [List.find?_cons_of_pos (by simp)]
    · have : a.2.2 ≠ x.2.2 := fun e => hb.1 (List.mem_map.2 ⟨x, hx', e.symm⟩)
      rw [List.find?_cons_of_neg (by simpa using this)]
      exact ih hb.2 hx'
end Go.Proofs.YtfdijpacbhomjaaGreatDoor
namespace Go.Proofs.YtfdijpacbhomjaaGreatDoor
open Go.RowKit Abs
theorem pd_eql (p o : Nat) : aBin Tryz.prog .eql 68 true (.pointer (some ⟨p, o, none⟩)) (.pointer none) = some (.bool false) := by kernel_rfl
theorem pd_neq (p o : Nat) : aBin Tryz.prog .neq 68 true (.pointer (some ⟨p, o, none⟩)) (.pointer none) = some (.bool true) := by kernel_rfl
theorem pd_eql0 : aBin Tryz.prog .eql 68 true (.pointer none) (.pointer none) = some (.bool true) := by kernel_rfl
theorem pd_neq0 : aBin Tryz.prog .neq 68 true (.pointer none) (.pointer none) = some (.bool false) := by kernel_rfl
theorem pr_eql (p o : Nat) : aBin Tryz.prog .eql 148 true (.pointer (some ⟨p, o, none⟩)) (.pointer none) = some (.bool false) := by kernel_rfl
def zPt := @pr_eql
end Go.Proofs.YtfdijpacbhomjaaGreatDoor
namespace Go.Proofs.YtfdijpacbhomjaaGreatDoor
open Go.RowKit Abs
theorem get_live {M : Mem} {b : Nat} {x : Blk} (h : M.get b = some x) : b < M.size := Mem.get_lt h
end Go.Proofs.YtfdijpacbhomjaaGreatDoor
namespace Go.Proofs.YtfdijpacbhomjaaGreatDoor
open Go.RowKit Abs
def Only (l : List Nat) (M M' : Mem) : Prop := ∀ b x, b ∉ l → M.get b = some x → M'.get b = some x
theorem Only.refl (l : List Nat) (M : Mem) : Only l M M := fun _ _ _ h => h
theorem Only.trans {l : List Nat} {A B C : Mem} (h : Only l A B) (k : Only l B C) : Only l A C := fun b x hb hx => k b x hb (h b x hb hx)
theorem Only.set {l : List Nat} {M : Mem} {b : Nat} (hb : b ∈ l) (o : Option Blk) : Only l M (M.set b o) := fun c x hc hx => by
  rw [Mem.get_set_ne (fun e => hc (by rw [← e]; exact hb))]; exact hx
theorem Only.push (l : List Nat) (M : Mem) (x : Blk) : Only l M (M.push x) := fun b y _ hy => by rw [Mem.get_push_old (get_live hy)]; exact hy
theorem Only.mono {l l' : List Nat} {A B : Mem} (h : Only l A B) (hl : ∀ b ∈ l, b ∈ l') : Only l' A B := fun b x hb hx => h b x (fun e => hb (hl b e)) hx
end Go.Proofs.YtfdijpacbhomjaaGreatDoor
namespace Go.Proofs.YtfdijpacbhomjaaGreatDoor.Abs
open Go
theorem wri {x : Int} (h0 : -9223372036854775808 ≤ x) (h1 : x ≤ 9223372036854775807) : IntKind.i64.wrap x = x := by
  unfold IntKind.wrap; simp [IntKind.bits, IntKind.signed]; omega
theorem vMax_int (a b : Int) : vMin false [.int .i64 a, .int .i64 b] = some (.int .i64 (max a b)) := by
  simp only [vMin, evMin, aMin2]
  by_cases h : b > a
  · simp [h]; omega
  · simp [h]; omega
end Go.Proofs.YtfdijpacbhomjaaGreatDoor.Abs
namespace Go.Proofs.YtfdijpacbhomjaaGreatDoor.Abs
open Go Go.RowKit
def zA := And.intro (And.intro @zZ @zDk) (And.intro @pd_eql @zPt)
section
variable {n k : Nat} {f : AL} {m : Mem} {Q : Exit → AL → Mem → Prop} {B : Prop}
theorem CF {c : Operand} {x y : Code} (h : @CW Tryz.prog n k ⟨y⟩ ⟨Q⟩ f m) (hc : AL.look f c = some (.bool false) := by rfl) : @CW Tryz.prog n k ⟨.cond c x y⟩ ⟨Q⟩ f m := CW_cond false hc (fun e => by cases e) fun _ => h
theorem CT {c : Operand} {x y : Code} (h : @CW Tryz.prog n k ⟨x⟩ ⟨Q⟩ f m) (hc : AL.look f c = some (.bool true) := by rfl) : @CW Tryz.prog n k ⟨.cond c x y⟩ ⟨Q⟩ f m := CW_cond true hc (fun _ => h) fun e => by cases e
theorem CC {c : Operand} {x y : Code} (t : Bool) (ht : t = true → @CW Tryz.prog n k ⟨x⟩ ⟨Q⟩ f m) (hf : t = false → @CW Tryz.prog n k ⟨y⟩ ⟨Q⟩ f m) (hc : AL.look f c = some (.bool t) := by rfl) : @CW Tryz.prog n k ⟨.cond c x y⟩ ⟨Q⟩ f m := CW_cond t hc ht hf
theorem WMx {g : FuncId} {fn : Func} {c : Code} {xs : List Value} {R : Value → Mem → Prop} {m : Mem} (hf : Tryz.prog.funcs[g]? = some fn) {rs : Array ResultVar} (hr : fn.results = rs) {n : Nat} (hn : fn.ntmps = n)
    (h : Within m → (∀ x ∈ xs, Cl m.Has x) → ∀ k, @CW Tryz.prog n k ⟨c⟩ ⟨mEnd Tryz.prog rs.toList R⟩ (alOf 0 xs) m) (hb : fn.body = some c := by rfl) (hx : xs.length ≤ n := by simp) : Spec Tryz.prog g xs m R := Spec.walkM hf hb rs hr n hn hx h
theorem WM {g : FuncId} {fn : Func} {c : Code} {xs : List Value} {R : Value → Mem → Prop} {m : Mem} (hf : Tryz.prog.funcs[g]? = some fn) {rs : Array ResultVar} (hr : fn.results = rs) {n : Nat} (hn : fn.ntmps = n)
    (h : ∀ k, @CW Tryz.prog n k ⟨c⟩ ⟨mEnd Tryz.prog rs.toList R⟩ (alOf 0 xs) m) (hb : fn.body = some c := by rfl) (hx : xs.length ≤ n := by simp) : Spec Tryz.prog g xs m R := Spec.walkM hf hb rs hr n hn hx fun _ _ => h
theorem S0 {A : Prop} (h : B) (e : A = B := by simp only [zA, reduceIte, Nat.reduceLT, Int.reduceToNat, Int.reduceLE, Int.reduceEq, Int.reduceLT, Nat.reduceEqDiff, Nat.reduceAdd, Nat.reduceSub]; rfl) : A := e.mpr h
theorem R0 {id : Nat} {ops : Array Oper} (h : B) (e : @sOpsB Tryz.prog n ops.toList ⟨Q .normal⟩ ops.toList f m = B := by simp only [zA, reduceIte, Nat.reduceLT, Int.reduceToNat, Int.reduceLE, Int.reduceEq, Int.reduceLT, Nat.reduceEqDiff, Nat.reduceAdd, Nat.reduceSub]; rfl) : @CW Tryz.prog n k ⟨.region id ops false⟩ ⟨Q⟩ f m := CW_region (e.mpr h)
theorem T0 (h : B) (e : Q .ret f m = B := by simp only [zA, reduceIte, Nat.reduceLT, Int.reduceToNat, Int.reduceLE, Int.reduceEq, Int.reduceLT, Nat.reduceEqDiff, Nat.reduceAdd, Nat.reduceSub, mEnd, sAnswer, sAnswer.sRes]; rfl) : @CW Tryz.prog n k ⟨.ret⟩ ⟨Q⟩ f m := CW_ret (e.mpr h)
theorem K0 {g : FuncId} {xs : List Value} {v : Value} {G : Value → Mem → Prop} (s : Spec Tryz.prog g xs m fun u M => u = v ∧ M = m) (h : B) (he : entered Tryz.prog g = true := by kernel_rfl) (e : G v m = B := by simp only [zA, reduceIte, Nat.reduceLT, Int.reduceToNat, Int.reduceLE, Int.reduceEq, Int.reduceLT, Nat.reduceEqDiff, Nat.reduceAdd, Nat.reduceSub]; rfl) : entered Tryz.prog g = true ∧ ∃ R, Spec Tryz.prog g xs m R ∧ @Later ⟨∀ u M, R u M → G u M⟩ := ⟨he, _, s, fun u M ⟨hu, hM⟩ => by subst hu; subst hM; exact e.mpr h⟩
theorem S1 {A : Prop} {F0 : Prop} (g0 : F0) (h : B) (e : F0 → A = B := by intro g0; simp only [zA, g0, reduceIte, Nat.reduceLT, Int.reduceToNat, Int.reduceLE, Int.reduceEq, Int.reduceLT, Nat.reduceEqDiff, Nat.reduceAdd, Nat.reduceSub]; rfl) : A := (e g0).mpr h
theorem R1 {id : Nat} {ops : Array Oper} {F0 : Prop} (g0 : F0) (h : B) (e : F0 → @sOpsB Tryz.prog n ops.toList ⟨Q .normal⟩ ops.toList f m = B := by intro g0; simp only [zA, g0, reduceIte, Nat.reduceLT, Int.reduceToNat, Int.reduceLE, Int.reduceEq, Int.reduceLT, Nat.reduceEqDiff, Nat.reduceAdd, Nat.reduceSub]; rfl) : @CW Tryz.prog n k ⟨.region id ops false⟩ ⟨Q⟩ f m := CW_region ((e g0).mpr h)
theorem K1 {g : FuncId} {xs : List Value} {v : Value} {G : Value → Mem → Prop} {F0 : Prop} (g0 : F0) (s : Spec Tryz.prog g xs m fun u M => u = v ∧ M = m) (h : B) (he : entered Tryz.prog g = true := by kernel_rfl) (e : F0 → G v m = B := by intro g0; simp only [zA, g0, reduceIte, Nat.reduceLT, Int.reduceToNat, Int.reduceLE, Int.reduceEq, Int.reduceLT, Nat.reduceEqDiff, Nat.reduceAdd, Nat.reduceSub]; rfl) : entered Tryz.prog g = true ∧ ∃ R, Spec Tryz.prog g xs m R ∧ @Later ⟨∀ u M, R u M → G u M⟩ := ⟨he, _, s, fun u M ⟨hu, hM⟩ => by subst hu; subst hM; exact (e g0).mpr h⟩
theorem S2 {A : Prop} {F0 F1 : Prop} (g0 : F0) (g1 : F1) (h : B) (e : F0 → F1 → A = B := by intro g0 g1; simp only [zA, g0, g1, reduceIte, Nat.reduceLT, Int.reduceToNat, Int.reduceLE, Int.reduceEq, Int.reduceLT, Nat.reduceEqDiff, Nat.reduceAdd, Nat.reduceSub]; rfl) : A := (e g0 g1).mpr h
theorem S3 {A : Prop} {F0 F1 F2 : Prop} (g0 : F0) (g1 : F1) (g2 : F2) (h : B) (e : F0 → F1 → F2 → A = B := by intro g0 g1 g2; simp only [zA, g0, g1, g2, reduceIte, Nat.reduceLT, Int.reduceToNat, Int.reduceLE, Int.reduceEq, Int.reduceLT, Nat.reduceEqDiff, Nat.reduceAdd, Nat.reduceSub]; rfl) : A := (e g0 g1 g2).mpr h
theorem T3 {F0 F1 F2 : Prop} (g0 : F0) (g1 : F1) (g2 : F2) (h : B) (e : F0 → F1 → F2 → Q .ret f m = B := by intro g0 g1 g2; simp only [zA, g0, g1, g2, reduceIte, Nat.reduceLT, Int.reduceToNat, Int.reduceLE, Int.reduceEq, Int.reduceLT, Nat.reduceEqDiff, Nat.reduceAdd, Nat.reduceSub, mEnd, sAnswer, sAnswer.sRes]; rfl) : @CW Tryz.prog n k ⟨.ret⟩ ⟨Q⟩ f m := CW_ret ((e g0 g1 g2).mpr h)
theorem S4 {A : Prop} {F0 F1 F2 F3 : Prop} (g0 : F0) (g1 : F1) (g2 : F2) (g3 : F3) (h : B) (e : F0 → F1 → F2 → F3 → A = B := by intro g0 g1 g2 g3; simp only [zA, g0, g1, g2, g3, reduceIte, Nat.reduceLT, Int.reduceToNat, Int.reduceLE, Int.reduceEq, Int.reduceLT, Nat.reduceEqDiff, Nat.reduceAdd, Nat.reduceSub]; rfl) : A := (e g0 g1 g2 g3).mpr h
theorem S5 {A : Prop} {F0 F1 F2 F3 F4 : Prop} (g0 : F0) (g1 : F1) (g2 : F2) (g3 : F3) (g4 : F4) (h : B) (e : F0 → F1 → F2 → F3 → F4 → A = B := by intro g0 g1 g2 g3 g4; simp only [zA, g0, g1, g2, g3, g4, reduceIte, Nat.reduceLT, Int.reduceToNat, Int.reduceLE, Int.reduceEq, Int.reduceLT, Nat.reduceEqDiff, Nat.reduceAdd, Nat.reduceSub]; rfl) : A := (e g0 g1 g2 g3 g4).mpr h
theorem R5 {id : Nat} {ops : Array Oper} {F0 F1 F2 F3 F4 : Prop} (g0 : F0) (g1 : F1) (g2 : F2) (g3 : F3) (g4 : F4) (h : B) (e : F0 → F1 → F2 → F3 → F4 → @sOpsB Tryz.prog n ops.toList ⟨Q .normal⟩ ops.toList f m = B := by intro g0 g1 g2 g3 g4; simp only [zA, g0, g1, g2, g3, g4, reduceIte, Nat.reduceLT, Int.reduceToNat, Int.reduceLE, Int.reduceEq, Int.reduceLT, Nat.reduceEqDiff, Nat.reduceAdd, Nat.reduceSub]; rfl) : @CW Tryz.prog n k ⟨.region id ops false⟩ ⟨Q⟩ f m := CW_region ((e g0 g1 g2 g3 g4).mpr h)
theorem S6 {A : Prop} {F0 F1 F2 F3 F4 F5 : Prop} (g0 : F0) (g1 : F1) (g2 : F2) (g3 : F3) (g4 : F4) (g5 : F5) (h : B) (e : F0 → F1 → F2 → F3 → F4 → F5 → A = B := by intro g0 g1 g2 g3 g4 g5; simp only [zA, g0, g1, g2, g3, g4, g5, reduceIte, Nat.reduceLT, Int.reduceToNat, Int.reduceLE, Int.reduceEq, Int.reduceLT, Nat.reduceEqDiff, Nat.reduceAdd, Nat.reduceSub]; rfl) : A := (e g0 g1 g2 g3 g4 g5).mpr h
theorem JK {J : AL → Mem → Prop} (slots : List Nat) (h : B) (e : @withV _ (keepF f slots) ⟨fun f' => ∃ m', Thin m m' ∧ J f' m'⟩ = B := by simp only [zZ, reduceIte, Nat.reduceLT, Int.reduceToNat, Int.reduceLE, Int.reduceEq, Int.reduceLT, Nat.reduceEqDiff, Nat.reduceAdd, Nat.reduceSub, keepF]; rfl) : @JoinM f m ⟨J⟩ := ⟨slots, e.mpr h⟩
end
end Go.Proofs.YtfdijpacbhomjaaGreatDoor.Abs
namespace Go.Proofs.YtfdijpacbhomjaaGreatDoor
open Go.RowKit Abs
def dskC (q g : Nat) (d : Dsk) : List Value := [.slice (some ⟨g, 0, none⟩) d.old.length d.old.length, .map (some q), .int .i64 d.fuse, .bool d.dead]
structure DskAt (M : Mem) (p q g : Nat) (d : Dsk) : Prop where
  ok : d.Ok
  row : ∃ s, M.get p = some (.cells false s (dskC q g d))
  kv : M.get q = some (.kv false (ents d.last) d.clock)
  old : M.get g = some (.cells false 1 (d.old.map fun s => .string (str s)))
  pq : p ≠ q
  pg : p ≠ g
  qg : q ≠ g
theorem DskAt.same {M M' : Mem} {p q g : Nat} {d : Dsk} (h : DskAt M p q g d) (hs : ∀ b x, M.get b = some x → M'.get b = some x) : DskAt M' p q g d :=
  ⟨h.ok, h.row.imp fun _ hr => hs _ _ hr, hs _ _ h.kv, hs _ _ h.old, h.pq, h.pg, h.qg⟩
theorem DskAt.only {M M' : Mem} {p q g : Nat} {d : Dsk} (h : DskAt M p q g d) {l : List Nat} (hs : Only l M M') (hp : p ∉ l) (hq : q ∉ l) (hg : g ∉ l) : DskAt M' p q g d :=
  ⟨h.ok, h.row.imp fun _ hr => hs _ _ hp hr, hs _ _ hq h.kv, hs _ _ hg h.old, h.pq, h.pg, h.qg⟩
theorem DskAt.turn {M : Mem} {p q g : Nat} {d d' : Dsk} (h : DskAt M p q g d) (hok : d'.Ok) (ho : d'.old = d.old) (hl : d'.last = d.last) (hc : d'.clock = d.clock) (s : Nat) : DskAt (M.set p (some (.cells false s (dskC q g d')))) p q g d' := by
  obtain ⟨s0, hr⟩ := h.row
  exact ⟨hok, ⟨s, Mem.get_set_same hr _⟩, by rw [Mem.get_set_ne h.pq, hl, hc]; exact h.kv, by rw [Mem.get_set_ne h.pg, ho]; exact h.old, h.pq, h.pg, h.qg⟩
theorem DskAt.kvTurn {M : Mem} {p q g : Nat} {d : Dsk} (h : DskAt M p q g d) {L : LastL} {c : Nat} (hok : ({ d with last := L, clock := c } : Dsk).Ok) : DskAt (M.set q (some (.kv false (ents L) c))) p q g { d with last := L, clock := c } := by
  obtain ⟨s0, hr⟩ := h.row
  exact ⟨hok, ⟨s0, by rw [Mem.get_set_ne (Ne.symm h.pq)]; exact hr⟩, Mem.get_set_same h.kv _, by rw [Mem.get_set_ne h.qg]; exact h.old, h.pq, h.pg, h.qg⟩
def dp (p : Nat) : Value := .pointer (some ⟨p, 0, none⟩)
set_option maxRecDepth 100000 in
set_option maxHeartbeats 2000000 in
theorem may_spec (M : Mem) (p q g : Nat) (d : Dsk) (hd : DskAt M p q g d) (i : Int) :
    Abs.Spec Tryz.prog 143 [dp p, .int .i64 i] M fun u M' => u = .int .i64 (d.may i) ∧ M' = M := by
  refine Abs.Spec.walkM Tryz.func143 (by rfl) _ Tryz.results143 _ Tryz.ntmps143 (by simp [dp]) ?_
  intro hc hx k
  unfold dp
  obtain ⟨s, hr⟩ := hd.row
  unfold dskC at hr
  refine CW_seq (R0 ?_)
  refine CW_seq (CW_block (CW_seq (R1 @hr ?_)))
  refine CF (CW_seq (R1 @hr ?_))
  refine CW_cond d.dead (by rfl) (fun h => CW_seq (CW_region ?_)) (fun h => CW_seq (CW_region ?_))
  · refine S0 ?_
    refine T0 ?_
    exact ⟨M, Thin.refl _, by unfold Dsk.may; rw [if_pos h], rfl⟩
  have hn : (d.old.length : Int) ≤ 1024 := by have := hd.ok.n; omega
  have fin : ∀ b : Bool, b = decide (i < 0 ∨ (d.old.length : Int) ≤ i) → (if b = true then (10 : Int) else 0) = d.may i := fun b hb => by
    have e0 : d.may i = if i < 0 ∨ (d.old.length : Int) ≤ i then 10 else 0 := by unfold Dsk.may; rw [h]; rfl
    rw [e0, hb]
    by_cases e : i < 0 ∨ (d.old.length : Int) ≤ i <;> simp [e]
  cases q1 : decide (i < 0)
  · refine S2 @hr @q1 ?_
    refine CC (decide (i ≥ (d.old.length : Int))) (fun h2 => CW_seq (CW_region ?_)) (fun h2 => CW_skip ?_)
    · refine S0 ?_
      refine T0 ?_
      refine ⟨M, Thin.refl _, ?_, rfl⟩
      rw [← fin true (by have := of_decide_eq_true h2; simp; omega)]; rfl
    · refine S0 ?_
      refine CW_seq (R0 ?_)
      refine T0 ?_
      refine ⟨M, Thin.refl _, ?_, rfl⟩
      rw [← fin false (by have := of_decide_eq_false h2; have := of_decide_eq_false q1; simp; omega)]; rfl
  · refine S2 @hr @q1 ?_
    refine CW_cond true (by rfl) (fun h2 => CW_seq (CW_region ?_)) (fun h2 => by cases h2)
    refine S0 ?_
    refine T0 ?_
    refine ⟨M, Thin.refl _, ?_, rfl⟩
    rw [← fin true (by have := of_decide_eq_true q1; simp; omega)]; rfl
set_option maxRecDepth 100000 in
set_option maxHeartbeats 2000000 in
theorem dlen_spec (M : Mem) (p q g : Nat) (d : Dsk) (hd : DskAt M p q g d) :
    Abs.Spec Tryz.prog 88 [dp p] M fun u M' => u = .int .i64 (d.old.length : Nat) ∧ M' = M := by
  refine Abs.Spec.walkM Tryz.func88 (by rfl) _ Tryz.results88 _ Tryz.ntmps88 (by simp [dp]) ?_
  intro hc hx k
  unfold dp
  obtain ⟨s, hr⟩ := hd.row
  unfold dskC at hr
  refine CW_seq (R0 ?_)
  refine CW_seq (CW_seq (R0 ?_))
  refine CF (CW_skip ?_)
  refine S0 ?_
  refine CW_seq (R1 @hr ?_)
  refine T0 ?_
  exact ⟨M, Thin.refl _, rfl⟩
set_option maxRecDepth 100000 in
set_option maxHeartbeats 2000000 in
theorem burn_spec (M : Mem) (p q g : Nat) (d : Dsk) (hd : DskAt M p q g d) :
    Abs.Spec Tryz.prog 156 [dp p] M fun u M' => u = .bool (!decide (d.fuse = 0)) ∧ DskAt M' p q g d.burnt ∧ Only [p] M M' ∧ M'.size = M.size := by
  refine Abs.Spec.walkM Tryz.func156 (by rfl) _ Tryz.results156 _ Tryz.ntmps156 (by simp [dp]) ?_
  intro hc hx k
  unfold dp
  obtain ⟨s, hr0⟩ := hd.row
  have hr := hr0
  unfold dskC at hr
  have hfu := hd.ok.fuse
  refine CW_seq (R0 ?_)
  refine CW_seq (CW_seq (R1 @hr ?_))
  refine CC (d.fuse == 0) (fun h => CW_seq (CW_region ?_)) (fun h => CW_skip ?_)
  · have h0 : d.fuse = 0 := by simpa using h
    have e : d.burnt = { d with dead := true } := by unfold Dsk.burnt; rw [if_pos h0]
    refine S1 @hr ?_
    refine CW_seq (R0 ?_)
    refine T0 ?_
    refine ⟨_, Thin.refl _, by simp [h0], ?_, Only.set (by simp) _, by simp⟩
    have := hd.turn hd.ok.burnt (burnt_old d) (burnt_last d) (burnt_clock d) s
    rw [e] at this ⊢
    exact this
  · have h0 : d.fuse ≠ 0 := by simpa using h
    have e : d.burnt = { d with fuse := max (d.fuse - 1) (-1) } := by unfold Dsk.burnt; rw [if_neg h0]
    refine S0 ?_
    refine CW_seq (CW_region ?_)
    have w1 : IntKind.i64.wrap (d.fuse - 1) = d.fuse - 1 := wri (by omega) (by omega)
    refine S3 @hr @w1 @vMax_int ?_
    refine CW_seq (R0 ?_)
    refine T0 ?_
    refine ⟨_, Thin.refl _, by simp [h0], ?_, Only.set (by simp) _, by simp⟩
    have := hd.turn hd.ok.burnt (burnt_old d) (burnt_last d) (burnt_clock d) s
    rw [e] at this ⊢
    exact this
set_option maxRecDepth 100000 in
set_option maxHeartbeats 2000000 in
theorem read_spec (M : Mem) (p q g : Nat) (d : Dsk) (hd : DskAt M p q g d) (i : Int) :
    Abs.Spec Tryz.prog 90 [dp p, .int .i64 i] M fun u M' => u = .tuple #[.string (str (d.read i).1), .int .i64 (d.read i).2] ∧ M' = M := by
  refine Abs.Spec.walkM Tryz.func90 (by rfl) _ Tryz.results90 _ Tryz.ntmps90 (by simp [dp]) ?_
  intro hc hx k
  obtain ⟨s, hr⟩ := hd.row
  unfold dskC at hr
  refine CW_seq (R0 ?_)
  refine CW_seq (CW_seq (R0 ?_))
  refine K0 (may_spec M p q g d hd i) ?_
  refine CW_seq (R0 ?_)
  refine CC (d.may i != 0) (fun h => CW_seq (CW_region ?_)) (fun h => CW_skip ?_)
  · refine S0 ?_
    refine T0 ?_
    have h : d.may i ≠ 0 := by simpa using h
    unfold Dsk.read
    rw [if_neg h]
    exact ⟨_, Thin.refl _, rfl, rfl⟩
  have h : d.may i = 0 := by simpa using h
  refine S0 ?_
  obtain ⟨n, rfl, hn⟩ : ∃ n : Nat, i = (n : Int) ∧ n < d.old.length := by
    unfold Dsk.may at h
    split at h
    · cases h
    · split at h
      · cases h
      · exact ⟨i.toNat, by omega, by omega⟩
  have hrd : d.read (n : Int) = (d.sector n, 0) := by unfold Dsk.read; rw [if_pos h]; rfl
  rw [hrd]
  have hdp : dp p = .pointer (some ⟨p, 0, none⟩) := rfl
  refine CW_seq (CW_seq (CW_region ?_))
  simp only [zZ, reduceIte, Nat.reduceLT, Int.reduceToNat, Int.reduceLE, Int.reduceEq, Int.reduceLT, Nat.reduceEqDiff, Nat.reduceAdd, zDk, pd_eql, pd_neq, pd_eql0, pd_neq0, hr, hdp, look_dsk hd.kv]
  refine CW_seq (R0 ?_)
  cases hl : lastOf d.last n with
  | some s' =>
    simp only [Option.isSome_some, Option.getD_some]
    refine CT (CW_seq (R0 ?_))
    refine T0 ?_
    unfold Dsk.sector
    rw [hl]
    exact ⟨_, Thin.refl _, rfl, rfl⟩
  | none =>
    simp only [Option.isSome_none, Option.getD_none]
    refine CF (CW_skip ?_)
    refine S0 ?_
    refine CW_seq (CW_region ?_)
    have g0 : (0 : Int) ≤ (n : Int) := by omega
    have g1 : (n : Int) < (d.old.length : Int) := by omega
    have hc : cellIn n (some (.cells false 1 (d.old.map fun s => .string (str s)))) = some (.string (str ((d.old[n]?).getD []))) := by
      simp only [cellIn, List.getElem?_map, List.getElem?_eq_getElem hn, Option.map_some, Option.getD_some]
    refine S6 @hr @g0 @g1 @and_self @hd.old @hc ?_
    refine T0 ?_
    unfold Dsk.sector
    rw [hl]
    exact ⟨_, Thin.refl _, rfl, rfl⟩
theorem rep_zero : ∀ k : Nat, Lib.repeatL [(0 : UInt8)] k = List.replicate k 0
  | 0 => rfl
  | k + 1 => by rw [Lib.repeatL, rep_zero k]; rfl
set_option maxRecDepth 100000 in
set_option maxHeartbeats 2000000 in
theorem write_spec (M : Mem) (p q g : Nat) (d : Dsk) (hd : DskAt M p q g d) (i : Int) (x : List UInt8) (hx0 : x.length ≤ 1000000) :
    Abs.Spec Tryz.prog 94 [dp p, .int .i64 i, .string (str x)] M fun u M' => u = .int .i64 (d.write i x).2 ∧ DskAt M' p q g (d.write i x).1 ∧ Only [p, q] M M' ∧ M'.size = M.size := by
  refine Abs.Spec.walkM Tryz.func94 (by rfl) _ Tryz.results94 _ Tryz.ntmps94 (by simp [dp]) ?_
  intro hc hx k
  have hbs : bsize (str x) = x.length := rfl
  obtain ⟨D, hD⟩ : ∃ D, D = d.write i x := ⟨_, rfl⟩
  rw [← hD]
  unfold Dsk.write at hD
  refine CW_seq (R0 ?_)
  refine CW_seq (CW_seq (R0 ?_))
  refine K0 (may_spec M p q g d hd i) ?_
  refine CW_seq (R0 ?_)
  refine CC (d.may i != 0) (fun h => CW_seq (CW_region ?_)) (fun h => CW_skip ?_)
  · refine S0 ?_
    refine T0 ?_
    have h : d.may i ≠ 0 := by simpa using h
    rw [if_pos h] at hD
    subst hD
    exact ⟨_, Thin.refl _, rfl, hd, Only.refl _ _, rfl⟩
  have h : d.may i = 0 := by simpa using h
  rw [if_neg (by simp [h])] at hD
  refine S0 ?_
  obtain ⟨n, rfl, hn⟩ : ∃ n : Nat, i = (n : Int) ∧ n < d.old.length := by
    unfold Dsk.may at h
    split at h
    · cases h
    · split at h
      · cases h
      · exact ⟨i.toNat, by omega, by omega⟩
  refine CW_seq (CW_seq (R1 @hbs ?_))
  refine CC (decide ((x.length : Int) > 256)) (fun h => CW_seq (CW_region ?_)) (fun h => CW_skip ?_)
  · refine S0 ?_
    refine T0 ?_
    have h := of_decide_eq_true h
    rw [if_pos (by omega)] at hD
    subst hD
    exact ⟨_, Thin.refl _, rfl, hd, Only.refl _ _, rfl⟩
  have h2 := of_decide_eq_false h
  rw [if_neg (by omega)] at hD
  refine S0 ?_
  refine CW_seq (CW_seq (R0 ?_))
  refine ⟨by kernel_rfl, _, burn_spec M p q g d hd, ?_⟩
  rintro _ M1 ⟨rfl, hd1, ho1, hs1⟩
  refine S0 ?_
  refine CC (!!decide (d.fuse = 0)) (fun h => CW_seq (CW_region ?_)) (fun h => CW_skip ?_)
  · refine S0 ?_
    refine T0 ?_
    rw [Bool.not_not] at h
    have h := of_decide_eq_true h
    rw [if_pos h] at hD
    subst hD
    exact ⟨_, Thin.refl _, rfl, hd1, ho1.mono (by simp), hs1⟩
  rw [Bool.not_not] at h
  have h3 := of_decide_eq_false h
  rw [if_neg h3] at hD
  refine S0 ?_
  obtain ⟨s, hr⟩ := hd1.row
  unfold dskC at hr
  have w1 : IntKind.i64.wrap (256 - (x.length : Int)) = ((256 - x.length : Nat) : Int) := by rw [wri (by omega) (by omega)]; omega
  have hrep : Lib.repeatL [(0 : UInt8)] (256 - x.length) = List.replicate (256 - x.length) 0 := rep_zero _
  have hdp : dp p = .pointer (some ⟨p, 0, none⟩) := rfl
  have hcat : bsize (str x) + bsize (str (Lib.repeatL (str [0]).data.toList (256 - x.length))) ≤ 4611686018427387904 := by
    show bsize (str x) + bsize (str (Lib.repeatL [0] (256 - x.length))) ≤ _
    rw [hrep]; show x.length + (List.replicate (256 - x.length) (0 : UInt8)).length ≤ _; simp; omega
  have hcat2 : bcat (str x) (str (Lib.repeatL (str [0]).data.toList (256 - x.length))) = str (filled x) := by
    show bcat (str x) (str (Lib.repeatL [0] (256 - x.length))) = _
    rw [hrep]; rfl
  refine CW_seq (CW_draw2 hmix 11 (by kernel_rfl) ?_)
  refine S4 @hr @hdp @w1 @hbs ?_
  refine ⟨by kernel_rfl, _, repeat_spec (str [0]) (256 - x.length) (by omega) (by show 1 * (256 - x.length) ≤ _; omega) _, ?_⟩
  refine ⟨by decide, ?_⟩
  have hupd := upd_dsk (s := filled x) hd1.kv hd1.ok.keys n
  refine S1 @hr ?_
  refine ⟨hcat, ?_⟩
  refine S2 @hcat2 @hupd ?_
  refine CW_seq (R0 ?_)
  refine T0 ?_
  subst hD
  have hok := hd1.ok.put (i := n) (by rw [burnt_old]; exact hn) (filled_len (s := x) (by omega))
  refine ⟨_, Thin.refl _, rfl, hd1.kvTurn hok, (ho1.mono (by simp)).trans (Only.set (by simp) _), by simp [hs1]⟩
end Go.Proofs.YtfdijpacbhomjaaGreatDoor
namespace Go.Proofs.YtfdijpacbhomjaaGreatDoor
open Go.RowKit Abs
theorem next_dsk {m : Mem} {r q since last c : Nat} {seen : List Nat} {ro : Bool} {L : LastL} (hr : m.get r = some (.it false q since seen last)) (hq : m.get q = some (.kv ro (ents L) c)) (hc : ∀ x ∈ L, x.2.2 < since) (hl : since ≤ last) :
    aNext m (.pointer (some ⟨r, 0, none⟩)) = some fun v m' => (v = .tuple #[.bool false] ∧ m' = m ∧ aLeft (ents L) seen = []) ∨ ∃ e ∈ aLeft (ents L) seen, v = .tuple #[.bool true, e.key, e.val] ∧ m' = m.set r (some (.it false q since (seen ++ [e.born]) c)) := by
  unfold aNext
  simp only [hr, hq]
  rw [if_pos ⟨by
    rw [List.all_eq_true]
    intro e he
    unfold ents at he
    rw [List.mem_map] at he
    obtain ⟨x, hx, rfl⟩ := he
    simpa using hc x hx, hl⟩]
theorem entry_dsk {get : Nat → Option Blk} {r q since c : Nat} {seen : List Nat} {ro ro' : Bool} {L : LastL} {x : Nat × List UInt8 × Nat} (hr : get r = some (.it ro' q since (seen ++ [x.2.2]) c)) (hq : get q = some (.kv ro (ents L) c)) (hb : (L.map (·.2.2)).Nodup) (hx : x ∈ L) :
    aEntry get (.pointer (some ⟨r, 0, none⟩)) = some (.tuple #[.int .i64 (x.1 : Nat), .string (str x.2.1)]) := by
  unfold aEntry
  simp only [hr, hq, if_true, List.getLast?_concat, ents_find hb hx]
theorem syncV_size {E : Dsk} (h : E.Ok) (seen : List Nat) {s : List UInt8} (hs : s ∈ syncV E.old E.last seen) : s.length = 256 := by
  unfold syncV at hs
  rw [List.mem_mapIdx] at hs
  obtain ⟨i, hi, rfl⟩ := hs
  split
  · rename_i x hx
    exact (h.within x (List.mem_of_find?_eq_some hx)).2
  · exact h.size _ (List.getElem_mem hi)
theorem nodup_born {L : LastL} (h : (L.map (·.2.2)).Nodup) {x y : Nat × List UInt8 × Nat} (hx : x ∈ L) (hy : y ∈ L) (e : x.2.2 = y.2.2) : x = y := by
  induction L with
  | nil => cases hx
  | cons a L ih =>
    rw [List.map_cons, List.nodup_cons] at h
    rcases List.mem_cons.1 hx with rfl | hx' <;> rcases List.mem_cons.1 hy with rfl | hy'
    · rfl
    · exact absurd (List.mem_map.2 ⟨y, hy', e.symm⟩) h.1
    · exact absurd (List.mem_map.2 ⟨x, hx', e⟩) h.1
    · exact ih h.2 hx' hy'
set_option maxRecDepth 100000 in
set_option maxHeartbeats 2000000 in
theorem sync_spec (M : Mem) (p q g : Nat) (d : Dsk) (hd : DskAt M p q g d) :
    Abs.Spec Tryz.prog 108 [dp p] M fun u M' => u = .int .i64 d.sync.2 ∧ DskAt M' p q g d.sync.1 ∧ Only [p, q, g] M M' ∧ M.size ≤ M'.size := by
  refine Abs.Spec.walkM Tryz.func108 (by rfl) _ Tryz.results108 _ Tryz.ntmps108 (by simp [dp]) ?_
  intro hc hx k
  obtain ⟨D, hD⟩ : ∃ D, D = d.sync := ⟨_, rfl⟩
  rw [← hD]
  unfold Dsk.sync at hD
  refine CW_seq (R0 ?_)
  refine CW_seq (CW_seq (R0 ?_))
  refine K0 (may_spec M p q g d hd 0) ?_
  refine CW_seq (R0 ?_)
  refine CC (d.may 0 != 0) (fun h => CW_seq (CW_region ?_)) (fun h => CW_skip ?_)
  · refine S0 ?_
    refine T0 ?_
    have h : d.may 0 ≠ 0 := by simpa using h
    rw [if_pos h] at hD
    subst hD
    exact ⟨_, Thin.refl _, rfl, hd, Only.refl _ _, Nat.le_refl _⟩
  have h : d.may 0 = 0 := by simpa using h
  rw [if_neg (by simp [h])] at hD
  refine S0 ?_
  refine CW_seq (CW_seq (R0 ?_))
  refine ⟨by kernel_rfl, _, burn_spec M p q g d hd, ?_⟩
  rintro _ M1 ⟨rfl, hd1, ho1, hs1⟩
  refine S0 ?_
  refine CC (!!decide (d.fuse = 0)) (fun h => CW_seq (CW_region ?_)) (fun h => CW_skip ?_)
  · refine S0 ?_
    refine T0 ?_
    rw [Bool.not_not] at h
    have h := of_decide_eq_true h
    rw [if_pos h] at hD
    subst hD
    exact ⟨_, Thin.refl _, rfl, hd1, ho1.mono (by simp), by omega⟩
  rw [Bool.not_not] at h
  have h3 := of_decide_eq_false h
  rw [if_neg h3] at hD
  refine S0 ?_
  have hdp : dp p = .pointer (some ⟨p, 0, none⟩) := rfl
  obtain ⟨E, hE⟩ : ∃ E, E = d.burnt := ⟨_, rfl⟩
  rw [← hE] at hd1 hD
  clear hE
  obtain ⟨s, hr⟩ := hd1.row
  have hr' := hr
  unfold dskC at hr
  refine CW_seq (CW_seq (CW_region ?_))
  simp only [zZ, reduceIte, Nat.reduceLT, Int.reduceToNat, Int.reduceLE, Int.reduceEq, Int.reduceLT, Nat.reduceEqDiff, Nat.reduceAdd, zDk, pd_eql, pd_neq, pd_eql0, pd_neq0, hr, hdp, range_dsk hd1.kv]
  obtain ⟨M2, hM2⟩ : ∃ M2, M2 = M1.push (.it false q E.clock [] E.clock) := ⟨_, rfl⟩
  obtain ⟨r, hr0⟩ : ∃ r, r = M1.size := ⟨_, rfl⟩
  rw [← hM2, ← hr0]
  have hrp : r ≠ p := by have := get_live hr; omega
  have hrq : r ≠ q := by have := get_live hd1.kv; omega
  have hrg : r ≠ g := by have := get_live hd1.old; omega
  have hit : M2.get r = some (.it false q E.clock [] E.clock) := by rw [hM2, hr0, Mem.get_push_new]
  have hold2 : ∀ b x, M1.get b = some x → M2.get b = some x := fun b x hb => by rw [hM2, Mem.get_push_old (get_live hb)]; exact hb
  have hs2 : M2.size = M1.size + 1 := by rw [hM2, Mem.size_push]
  refine CW_block (MW_loop (fun j f M' => ∃ seen : List Nat, j = (aLeft (ents E.last) seen).length ∧ f = [(0, .pointer (some ⟨p, 0, none⟩)), (18, .pointer (some ⟨r, 0, none⟩))] ∧ M'.get r = some (.it false q E.clock seen E.clock) ∧
    DskAt M' p q g { E with old := syncV E.old E.last seen } ∧ Only [g, r] M2 M' ∧ M'.size = M2.size) (aLeft (ents E.last) []).length ?_ ?_)
  · refine JK [0, 18] ?_
    refine ⟨M2, Thin.refl _, [], rfl, hit, ?_, Only.refl _ _, rfl⟩
    rw [syncV_nil]
    exact hd1.same hold2
  · rintro j f M' ⟨seen, rfl, rfl, hit', hd', ho', hs'⟩
    have hnx := next_dsk hit' hd'.kv (by exact hd1.ok.clock) (Nat.le_refl _)
    refine CW_seq (R1 @hnx ?_)
    rintro v m' (⟨rfl, e9, hdone⟩ | ⟨e, he, rfl, rfl⟩)
    · replace e9 := e9.symm; subst e9
      refine S0 ?_
      refine CW_seq (CF (CW_exit ?_))
      refine S0 ?_
      obtain ⟨s', hr2⟩ := hd'.row
      unfold dskC at hr2
      refine CW_seq (CW_region ?_)
      simp only [zZ, reduceIte, Nat.reduceLT, Int.reduceToNat, Int.reduceLE, Int.reduceEq, Int.reduceLT, Nat.reduceEqDiff, Nat.reduceAdd, zDk, pd_eql, pd_neq, pd_eql0, pd_neq0, hr2, clear_dsk hd'.kv]
      refine CW_seq (R0 ?_)
      refine T0 ?_
      subst hD
      have hok := hd1.ok.synced
      have := hd'.kvTurn (L := []) (c := E.clock) (by rw [syncV_all hdone]; exact hok)
      rw [syncV_all hdone] at this
      refine ⟨_, Thin.refl _, rfl, this, ?_, by rw [Mem.size_set, hs', hs2, hs1]; omega⟩
      refine Only.trans (B := M') ?_ (Only.set (by simp) _)
      refine Only.trans (ho1.mono (by simp)) (fun b x hb hbx => ho' b x ?_ (hold2 b x hbx))
      have := get_live hbx
      simp at hb ⊢
      exact ⟨hb.2.2, by omega⟩
    · have hless := aLeft_less he
      obtain ⟨x, hx, rfl, hns⟩ := aLeft_mem he
      obtain ⟨hx1, hx2⟩ := hd1.ok.within x hx
      simp only at hless ⊢
      obtain ⟨M3, hM3⟩ : ∃ M3, M3 = M'.set r (some (.it false q E.clock (seen ++ [x.2.2]) E.clock)) := ⟨_, rfl⟩
      rw [← hM3]
      have hit3 : M3.get r = some (.it false q E.clock (seen ++ [x.2.2]) E.clock) := by rw [hM3]; exact Mem.get_set_same hit' _
      have hd3 : DskAt M3 p q g { E with old := syncV E.old E.last seen } := by rw [hM3]; exact hd'.only (Only.set (l := [r]) (by simp) _) (by simpa using Ne.symm hrp) (by simpa using Ne.symm hrq) (by simpa using Ne.symm hrg)
      obtain ⟨s3, hr3⟩ := hd3.row
      unfold dskC at hr3
      simp only at hr3
      have hent := entry_dsk (get := M3.get) hit3 hd3.kv hd1.ok.born hx
      refine S0 ?_
      refine CW_seq (CW_cond true (by rfl) (fun _ => CW_skip ?_) (fun h => by cases h))
      refine S0 ?_
      refine CW_block (CW_seq (R1 @hent ?_))
      have g0 : (0 : Int) ≤ (x.1 : Int) := by omega
      have g1 : (x.1 : Int) < ((syncV E.old E.last seen).length : Int) := by rw [syncV_len]; omega
      have hput : putIn 1 M3 g x.1 [.string (str x.2.1)] (M3.get g) = some (M3.set g (some (.cells false 1 ((syncV E.old E.last (seen ++ [x.2.2])).map fun s => .string (str s))))) := by
        rw [hd3.old]
        simp only [putIn]
        rw [if_pos ⟨rfl, by simp only [List.length_cons, List.length_nil, List.length_map, syncV_len]; omega, rfl⟩]
        rcases syncV_step (old := E.old) (seen := seen) hd1.ok.keys hx with h1 | ⟨y, hy, hne, hyb⟩
        · rw [← h1]
          simp only [setL, List.map_set]
        · exact absurd (nodup_born hd1.ok.born hy hx hyb) hne
      refine R5 @hr3 @g0 @g1 @and_self @hput ?_
      refine JK [0, 18] ?_
      refine ⟨_, Thin.refl _, _, ⟨seen ++ [x.2.2], rfl, by rw [Mem.get_set_ne (Ne.symm hrg)]; exact hit3, ?_, ?_, ?_⟩, hless⟩
      · exact ⟨⟨by simp only [syncV_len]; exact hd1.ok.n, by simp only [syncV_len]; exact hd1.ok.pos, fun s hs => syncV_size hd1.ok _ hs, hd1.ok.keys, hd1.ok.born, hd1.ok.clock, fun x hx => by simp only [syncV_len]; exact hd1.ok.within x hx, hd1.ok.fuse, trivial⟩, ⟨s3, by rw [Mem.get_set_ne (Ne.symm hd1.pg), hr3]; simp only [dskC, syncV_len]⟩, by rw [Mem.get_set_ne (Ne.symm hd1.qg)]; exact hd3.kv, Mem.get_set_same hd3.old _, hd1.pq, hd1.pg, hd1.qg⟩
      · exact ho'.trans ((by rw [hM3]; exact Only.set (by simp) _ : Only [g, r] M' M3).trans (Only.set (by simp) _))
      · rw [Mem.size_set, hM3, Mem.size_set, hs']
end Go.Proofs.YtfdijpacbhomjaaGreatDoor
namespace Go.Proofs.YtfdijpacbhomjaaGreatDoor
open Go.RowKit Abs
def markE : List UInt8 := [83, 76, 69, 49]
def trim0 (s : List UInt8) : List UInt8 := Lib.trimB s 0
def lastV (s : List UInt8) : Int × Int :=
  if Lib.hasPrefix s markE = true then
    (if (Sha.num ((s.drop 4).take 4) : Int) < 1 ∨ trim0 (s.drop 8) ≠ [] then (0, 2) else ((Sha.num ((s.drop 4).take 4) : Nat), 0))
  else if trim0 s = [] then (0, 0) else (0, 2)
def Dsk.lastE (d : Dsk) (i : Int) : Int × Int := if d.may i = 0 then lastV (d.sector i.toNat) else (0, d.may i)
theorem take_spec (s : ByteArray) (k : Nat) (hk1 : 1 ≤ k) (hk : k ≤ 6) (hs : k ≤ s.size) (hsz : s.size ≤ 140737488355327) (m : Mem) :
    Abs.Spec Tryz.prog 147 [.string s, .int .i64 (k : Nat)] m fun u M => u = .tuple #[.int .i64 (Sha.num (s.data.toList.take k) : Nat), .string (str (s.data.toList.drop k)), .int .i64 0] ∧ M = m := by
  have h := Abs.Spec.of_flat (P := Tryz.prog) (k := 147) (xs := [.string s, .int .i64 (k : Nat)]) (m := m) (v := .tuple #[.int .i64 (Sha.num (s.data.toList.take k) : Nat), .string (s.extract k s.size), .int .i64 0]) (by simp [flat]) rfl (fun w => take_any s k hk1 hk hs hsz w)
  have e : s.extract k s.size = str (s.data.toList.drop k) := by
    rw [← bsub_eq]
    unfold bsub str
    rw [List.take_of_length_le (by rw [List.length_drop, Array.length_toList]; exact Nat.le_refl _)]
  rw [e] at h
  exact h
theorem fixed_spec (n : Int) (k : Nat) (hk1 : 1 ≤ k) (hk : k ≤ 8) (m : Mem) :
    Abs.Spec Tryz.prog 194 [.int .i64 n, .int .i64 (k : Nat)] m fun u M => u = .string (str (Sha.fixed n k)) ∧ M = m :=
  Abs.Spec.of_flat (by simp [flat]) rfl fun w => fixed_any n k hk1 hk w
theorem beq_nilS (l : List UInt8) : beqB (str l) ⟨#[]⟩ = decide (l = []) := by
  show (l == []) = _
  cases l <;> simp
set_option maxRecDepth 100000 in
set_option maxHeartbeats 2000000 in
theorem last_spec (M : Mem) (p q g : Nat) (d : Dsk) (hd : DskAt M p q g d) (i : Int) :
    Abs.Spec Tryz.prog 158 [dp p, .int .i64 i] M fun u M' => u = .tuple #[.int .i64 (d.lastE i).1, .int .i64 (d.lastE i).2] ∧ M' = M := by
  refine Abs.Spec.walkM Tryz.func158 (by rfl) _ Tryz.results158 _ Tryz.ntmps158 (by simp [dp]) ?_
  intro hc hx k
  obtain ⟨E, hE⟩ : ∃ E, E = d.lastE i := ⟨_, rfl⟩
  rw [← hE]
  unfold Dsk.lastE at hE
  refine CW_seq (R0 ?_)
  refine CW_seq (R0 ?_)
  refine K0 (read_spec M p q g d hd i) ?_
  unfold Dsk.read
  refine CW_seq (CW_seq (R0 ?_))
  by_cases hm : d.may i = 0
  · rw [if_pos hm] at hE ⊢
    have hlen : (d.sector i.toNat).length = 256 := by
      refine hd.ok.sector ?_
      have := hm
      unfold Dsk.may at this
      have hp := hd.ok.pos
      split at this
      · cases this
      · split at this
        · cases this
        · omega
    obtain ⟨s, hs⟩ : ∃ s, s = d.sector i.toNat := ⟨_, rfl⟩
    rw [← hs] at hE hlen ⊢
    simp only
    refine CF (CW_skip ?_)
    refine S0 ?_
    refine CW_seq (R0 ?_)
    refine K0 (cutPrefix_spec (str s) (str markE) _) ?_
    have e1 : (str s).data.toList = s := rfl
    have e2 : (str markE).data.toList = markE := rfl
    rw [e1, e2]
    unfold lastV at hE
    refine CW_seq (CW_seq (R0 ?_))
    cases hpre : Lib.hasPrefix s markE
    · rw [hpre, if_neg (by simp)] at hE
      refine CT (CW_seq (CW_seq (R0 ?_)))
      refine ⟨by kernel_rfl, _, trim_spec (str s) 0 (by decide) (by show s.length ≤ _; omega) _, ?_⟩
      rintro _ M9 ⟨rfl, e9⟩; replace e9 := e9.symm; subst e9
      rw [e1]
      refine S1 @beq_nilS ?_
      refine CC (decide (Lib.trimB s 0 = [])) (fun h => CW_seq (CW_region ?_)) (fun h => CW_skip ?_)
      · have h := of_decide_eq_true h
        refine S0 ?_
        refine T0 ?_
        rw [if_pos (show trim0 s = [] from h)] at hE
        subst hE
        exact ⟨_, Thin.refl _, rfl, rfl⟩
      · have h := of_decide_eq_false h
        refine S0 ?_
        refine CW_seq (R0 ?_)
        refine T0 ?_
        rw [if_neg (show ¬ trim0 s = [] from h)] at hE
        subst hE
        exact ⟨_, Thin.refl _, rfl, rfl⟩
    · rw [hpre, if_pos rfl] at hE
      refine CF (CW_skip ?_)
      refine S0 ?_
      have htp : Lib.trimPrefix s markE = s.drop 4 := by unfold Lib.trimPrefix; rw [if_pos hpre]; rfl
      rw [htp]
      refine CW_seq (R0 ?_)
      refine ⟨by kernel_rfl, _, take_spec (str (s.drop 4)) 4 (by omega) (by omega) (by show 4 ≤ (s.drop 4).length; simp; omega) (by show (s.drop 4).length ≤ _; simp; omega) _, ?_⟩
      rintro _ M9 ⟨rfl, e9⟩; replace e9 := e9.symm; subst e9
      have e3 : (str (s.drop 4)).data.toList = s.drop 4 := rfl
      rw [e3, List.drop_drop]
      obtain ⟨n, hn⟩ : ∃ n, n = Sha.num ((s.drop 4).take 4) := ⟨_, rfl⟩
      rw [← hn] at hE ⊢
      simp only [zZ, reduceIte, Nat.reduceLT, Int.reduceToNat, Int.reduceLE, Int.reduceEq, Int.reduceLT, Nat.reduceEqDiff, Nat.reduceAdd, zDk, pd_eql, pd_neq, pd_eql0, pd_neq0, Nat.reduceAdd]
      refine CW_seq (CW_seq (CW_region ?_))
      have e4 : (str (s.drop 8)).data.toList = s.drop 8 := rfl
      have fin : ∀ b : Bool, (b = true ↔ ((n : Int) < 1 ∨ trim0 (s.drop 8) ≠ [])) → E = if b = true then (0, 2) else ((n : Int), 0) := fun b hb => by
        rw [hE]
        by_cases h : (n : Int) < 1 ∨ trim0 (s.drop 8) ≠ []
        · rw [if_pos h, if_pos (hb.2 h)]
        · rw [if_neg h, if_neg (fun q => h (hb.1 q))]
      have tail : ∀ b : Bool, (b = true ↔ ((n : Int) < 1 ∨ trim0 (s.drop 8) ≠ [])) → True := fun _ _ => trivial
      cases q1 : decide ((n : Int) < 1)
      · have q1' := of_decide_eq_false q1
        refine S1 @q1 ?_
        refine ⟨by kernel_rfl, _, trim_spec (str (s.drop 8)) 0 (by decide) (by show (s.drop 8).length ≤ _; simp; omega) _, ?_⟩
        rintro _ M9 ⟨rfl, e9⟩; replace e9 := e9.symm; subst e9
        rw [e4]
        simp only [zZ, reduceIte, Nat.reduceLT, Int.reduceToNat, Int.reduceLE, Int.reduceEq, Int.reduceLT, Nat.reduceEqDiff, Nat.reduceAdd, zDk, pd_eql, pd_neq, pd_eql0, pd_neq0, bne, beq_nilS, q1]
        refine CC (!decide (Lib.trimB (s.drop 8) 0 = [])) (fun h => CW_seq (CW_region ?_)) (fun h => CW_skip ?_)
        · refine S0 ?_
          refine T0 ?_
          have := fin true (by simpa using .inr (by simpa [trim0] using h))
          subst this
          exact ⟨_, Thin.refl _, rfl, rfl⟩
        · refine S0 ?_
          refine CW_seq (R0 ?_)
          refine T0 ?_
          have := fin false (by
            have h : trim0 (s.drop 8) = [] := by simpa [trim0] using h
            simp [h]; omega)
          subst this
          exact ⟨_, Thin.refl _, rfl, rfl⟩
      · have q1' := of_decide_eq_true q1
        refine S1 @q1 ?_
        refine CT (CW_seq (R0 ?_))
        refine T0 ?_
        have := fin true (by simpa using .inl q1')
        subst this
        exact ⟨_, Thin.refl _, rfl, rfl⟩
  · rw [if_neg hm] at hE ⊢
    refine CW_cond true (by simp only; simp [hm, AL.look, AL.get]) (fun _ => CW_seq (CW_region ?_)) (fun h => by cases h)
    refine S0 ?_
    refine T0 ?_
    subst hE
    exact ⟨_, Thin.refl _, rfl, rfl⟩
end Go.Proofs.YtfdijpacbhomjaaGreatDoor
namespace Go.Proofs.YtfdijpacbhomjaaGreatDoor.Abs
open Go
theorem frame_init {n : Nat → Prop} {ι : Nat → Loc} {xs ys : List Value} {fn : Func} (hys : VRels n ι xs ys) : ARel n ι (aFrame fn xs) { tmps := ys.toArray ++ Array.replicate (fn.ntmps - ys.toArray.size) undef, defers := [] } := by
  refine ⟨rfl, ?_⟩
  simp only [Array.toList_append, Array.toList_replicate, List.size_toArray]
  rw [← hys.1]
  unfold aFrame
  refine VRels.append hys ⟨rfl, fun i x y hx hy => ?_⟩
  rw [hx] at hy
  cases hy
  have := List.mem_of_getElem? hx
  rw [List.mem_replicate] at this
  rw [this.2]
  exact undef_rel
theorem Spec.of_defer {P : Program} {k k' : FuncId} {fn fn' : Func} {c0 c2 c' : Code} {id : Nat} {o1 o2 : Oper} {t : Nat} {caps : Array Operand} {xs : List Value} {m : Mem} {R : Value → Mem → Prop}
    (hf : P.funcs[k]? = some fn) (hb : fn.body = some (.seq c0 (.seq (.region id #[o1, o2] false) c2)))
    (ho1 : o1.op = .makeFunc (.func k') #[] caps) (hd1 : o1.dst = some t) (hg1 : o1.guard = none) (ho2 : o2.op = .defer { callee := .value (.tmp t), args := #[], argTypes := #[] }) (hd2 : o2.dst = none) (hg2 : o2.guard = none)
    (he : entered P k' = true) (hf' : P.funcs[k']? = some fn') (hb' : fn'.body = some c')
    (h : AW P c0 (fun e a1 m1 => e = .normal ∧ ∃ l, evArgs a1 caps.toList = some l ∧ t < a1.length ∧
      ∀ D : Defs, @AW D P c2 (fun e a2 m2 => (e = .ret ∨ e = .normal) ∧ @AW defsNil P c' (fun e' a3 m3 => (e' = .ret ∨ e' = .normal) ∧ (∃ u, aAnswer P fn'.results.toList a3 m3 = some u) ∧ ∃ u, aAnswer P fn.results.toList a2 m3 = some u ∧ R u m3) (aFrame fn' l) m2)
        (a1.set t (.func (.func k') #[] l.toArray)) m1) (aFrame fn xs) m) : Spec P k xs m R := by
  intro ι w ys hys hr
  refine calls_of_wp_defers hf hb ?_
  refine wp_seq (wp_mono (h ι m w ι _ w (Step.refl _ _ _) (frame_init hys) hr) ?_)
  rintro e act w1 ⟨κ, a1, m1, ⟨rfl, l, hl, htl, h2⟩, ha, hr1, hs1⟩
  refine wp_seq (wp_region_list ?_)
  have hla := evArgs_rel ha hl
  obtain ⟨cs, hcs⟩ : ∃ cs, cs = caps.map act.eval := ⟨_, rfl⟩
  have hlc : VRels m1.Has κ l cs.toList := by rw [hcs, Array.toList_map]; exact hla
  have hty : act.tmps.size = a1.length := by have := ha.tmps.1; simpa using this.symm
  have hw : ∀ (o : Oper) (y : Nat → Option Bool), o.guard = none → Region.wanted o y = true := fun o y hg => by unfold Region.wanted; rw [hg]
  have run1 : (execOp act.eval o1).run P w1 = .ok (.value (.func (.func k') #[] cs)) w1 := by
    simp [execOp, ho1, hcs, Instr.makeFunc]
  obtain ⟨act1, hact1⟩ : ∃ act1, act1 = act.put (some t) (.func (.func k') #[] cs) := ⟨_, rfl⟩
  have heval : act1.eval (.tmp t) = .func (.func k') #[] cs := by
    rw [hact1]
    simp [Act.eval, Act.put, hty, htl]
  have run2 : (execOp act1.eval o2).run P w1 = .ok (.defer ⟨.fn (.func k') cs, #[]⟩) w1 := by
    unfold execOp
    rw [ho2]
    simp [resolve, heval, Deferred.ofValue]
  have hput : ({ act1 with defers := ⟨.fn (.func k') cs, #[]⟩ :: act1.defers } : Act).put o2.dst undef = { tmps := act1.tmps, defers := [⟨.fn (.func k') cs, #[]⟩] } := by
    have : act1.defers = [] := by rw [hact1]; exact ha.defers
    rw [hd2, this]
    rfl
  simp only [wpList]
  rw [if_pos (hw _ _ hg1)]
  left
  unfold Oper.wp
  rw [run1, Oper.upon_value, hd1, ← hact1]
  rw [if_pos (hw _ _ hg2)]
  left
  rw [run2, Oper.upon_defer, hput]
  -- what comes behind
  have ha1 : ARel m1.Has κ (a1.set t (.func (.func k') #[] l.toArray)) act1 := by
    rw [hact1]
    refine ha.put t (.func _ _ _ _ _ rfl (fun i x y hx => by simp at hx) ?_ fun i x y hx hy => ?_)
    · have := hlc.1; simpa using this
    · exact hlc.2 i x y (by simpa using hx) (by simpa using hy)
  have ha2 : @ARel ⟨[⟨.fn (.func k') cs, #[]⟩]⟩ m1.Has κ (a1.set t (.func (.func k') #[] l.toArray)) { tmps := act1.tmps, defers := [⟨.fn (.func k') cs, #[]⟩] } := @ARel.mk ⟨[⟨.fn (.func k') cs, #[]⟩]⟩ _ _ _ _ rfl ha1.tmps
  refine wp_mono (h2 ⟨[⟨.fn (.func k') cs, #[]⟩]⟩ κ m1 w1 κ _ w1 (Step.refl _ _ _) ha2 hr1) ?_
  rintro e act2 w2 ⟨μ, a2, m2, ⟨he2, haw⟩, hA2, hr2, hs2⟩
  have hdef : act2.defers = [⟨.fn (.func k') cs, #[]⟩] := @ARel.defers ⟨[⟨.fn (.func k') cs, #[]⟩]⟩ _ _ _ _ hA2
  have hinv : (invoke (.fn (.func k') cs) #[]).run P w2 = .ok (.enter k' cs) w2 := by
    unfold entered at he
    rw [hf'] at he
    simp only [Bool.and_eq_true, Bool.not_eq_true'] at he
    have hbn : fn'.body.isNone = false := by rw [hb']; rfl
    simp only [invoke, callFunc, Sem.run_bind, run_program, Result.andThen_ok, hf', he.2, hbn, Bool.false_eq_true, if_false, Array.empty_append]
    rfl
  have hlc2 : VRels m2.Has μ l cs.toList := hlc.mono hs2.grows hs2.at_
  have hleave : Leaves P fn act2.tmps (fun e w' => ∃ v v' κ m', R v m' ∧ e = .returned v' ∧ VRel m'.Has κ v v' ∧ Rel κ m' w' ∧ Step ι m w κ m' w') [⟨.fn (.func k') cs, #[]⟩] .returning w2 := by
    refine leaves_cons (by simp) hinv (CallsD.mono (callsD_of_wp (R := fun e w' => ∃ v', e = .returned v' ∧ ∃ u0, (results fn act2.tmps).run P w' = .ok u0 w' ∧ ∃ v v' κ m', R v m' ∧ Ending.returned u0 = .returned v' ∧ VRel m'.Has κ v v' ∧ Rel κ m' w' ∧ Step ι m w κ m' w') hf' hb' ?_) ?_)
    · have hfi := frame_init (fn := fn') hlc2
      rw [Array.toArray_toList] at hfi
      refine wp_mono (haw μ m2 w2 μ _ w2 (Step.refl _ _ _) hfi hr2) ?_
      rintro e act3 w3 ⟨ν, a3, m3, ⟨he3, ⟨u1, hu1⟩, u, hu, hR⟩, hA3, hr3, hs3⟩
      obtain ⟨v1, hv1, _⟩ := aAnswer_run hA3 hr3 hu1
      have hA2' : @ARel ⟨[⟨.fn (.func k') cs, #[]⟩]⟩ m3.Has ν a2 act2 := @ARel.mono ⟨[⟨.fn (.func k') cs, #[]⟩]⟩ _ _ _ _ hs3.grows hs3.at_ _ _ hA2
      obtain ⟨v2, hv2, hv3⟩ := @aAnswer_run _ _ _ ⟨[⟨.fn (.func k') cs, #[]⟩]⟩ _ _ _ _ _ hA2' hr3 hu
      have key : ∃ v, (results fn' act3.tmps).run P w3 = .ok v w3 ∧ ∃ v', Ending.returned v = .returned v' ∧ ∃ u0, (results fn act2.tmps).run P w3 = .ok u0 w3 ∧ ∃ v v' κ m', R v m' ∧ Ending.returned u0 = .returned v' ∧ VRel m'.Has κ v v' ∧ Rel κ m' w3 ∧ Step ι m w κ m' w3 :=
        ⟨v1, hv1, v1, rfl, v2, hv2, u, v2, ν, m3, hR, rfl, hv3, hr3, (hs1.trans hs2).trans hs3⟩
      rcases he3 with rfl | rfl
      · exact ⟨hA3.defers, key⟩
      · exact ⟨hA3.defers, key⟩
    · rintro e u' w' ⟨rfl, v', rfl, u0, hu0, hR⟩
      exact ⟨u0, hu0, hR⟩
  rcases he2 with rfl | rfl
  · show Leaves P fn act2.tmps _ act2.defers .returning w2
    rw [hdef]; exact hleave
  · show Leaves P fn act2.tmps _ act2.defers .returning w2
    rw [hdef]; exact hleave
end Go.Proofs.YtfdijpacbhomjaaGreatDoor.Abs
namespace Go.Proofs.YtfdijpacbhomjaaGreatDoor.Abs
open Go Go.RowKit
theorem sAnswer_spec {P : Program} {rs : List ResultVar} {n : Nat} {f : AL} {a : List Value} {m : Mem} (h1 : Knows n f a) {v : Value} (hv : sAnswer P rs f m = some v) : aAnswer P rs a m = some v := by
  unfold sAnswer at hv
  unfold aAnswer
  split at hv <;> first | (cases hv; done) | skip
  · rename_i v0 hv0; cases hv; simp only [sRes_spec h1 _ _ hv0]
  · rename_i l hne hl
    cases hv
    simp only [sRes_spec h1 _ _ hl]
theorem knows_frame {xs : List Value} {fn : Func} (hx : xs.length ≤ fn.ntmps) : Knows fn.ntmps (alOf 0 xs) (aFrame fn xs) := by
  refine ⟨by simp [aFrame]; omega, fun t v hv => ?_⟩
  obtain ⟨_, h2⟩ := alOf_get xs 0 t v hv
  unfold aFrame
  rw [List.getElem?_append, if_pos]
  · exact h2
  · exact (List.getElem?_eq_some_iff.1 h2).1
def dEnd (P : Program) (c' : Code) (n' : Nat) (l : List Value) (rs : List ResultVar) (R : Value → Mem → Prop) (e : Exit) (f2 : AL) (m2 : Mem) : Prop :=
  (e = .ret ∨ e = .normal) ∧ @SW defsNil P n' c' (fun e' _ m3 => (e' = .ret ∨ e' = .normal) ∧ ∃ u, sAnswer P rs f2 m3 = some u ∧ R u m3) (alOf 0 l) m2
theorem Spec.walk_defer {P : Program} {k k' : FuncId} {fn fn' : Func} {c0 c2 c' : Code} {id : Nat} {o1 o2 : Oper} {t : Nat} {caps : Array Operand} {xs : List Value} {m : Mem} {R : Value → Mem → Prop}
    (hf : P.funcs[k]? = some fn) (hb : fn.body = some (.seq c0 (.seq (.region id #[o1, o2] false) c2)))
    (ho1 : o1.op = .makeFunc (.func k') #[] caps) (hd1 : o1.dst = some t) (hg1 : o1.guard = none) (ho2 : o2.op = .defer { callee := .value (.tmp t), args := #[], argTypes := #[] }) (hd2 : o2.dst = none) (hg2 : o2.guard = none)
    (he : entered P k' = true) (hf' : P.funcs[k']? = some fn') (hb' : fn'.body = some c') (hr' : fn'.results = #[]) (rs : Array ResultVar) (hr : fn.results = rs) (n : Nat) (hn : fn.ntmps = n) (hx : xs.length ≤ n) (htn : t < n) (n' : Nat) (hn' : fn'.ntmps = n')
    (h : SW P n c0 (fun e f1 m1 => e = .normal ∧ ∃ l, sArgs (AL.look f1) caps.toList = some l ∧ l.length ≤ n' ∧
      ∀ D : Defs, @SW D P n c2 (dEnd P c' n' l rs.toList R) ((t, .func (.func k') #[] l.toArray) :: f1) m1) (alOf 0 xs) m) : Spec P k xs m R := by
  subst hr; subst hn; subst hn'
  refine Spec.of_defer hf hb ho1 hd1 hg1 ho2 hd2 hg2 he hf' hb' ((h _ (knows_frame hx)).mono ?_)
  rintro e a1 m1 ⟨f1, k1, rfl, l, hl, hll, h2⟩
  have close : ∀ e f2 a2 m2, Knows fn.ntmps f2 a2 → dEnd P c' fn'.ntmps l fn.results.toList R e f2 m2 →
      (e = .ret ∨ e = .normal) ∧ AW P c' (fun e' a3 m3 => (e' = .ret ∨ e' = .normal) ∧ (∃ u, aAnswer P fn'.results.toList a3 m3 = some u) ∧ ∃ u, aAnswer P fn.results.toList a2 m3 = some u ∧ R u m3) (aFrame fn' l) m2 := by
    rintro e f2 a2 m2 k2 ⟨he2, h3⟩
    refine ⟨he2, (h3 _ (knows_frame hll)).mono ?_⟩
    rintro e' a3 m3 ⟨f3, k3, he3, u, hu, hR⟩
    refine ⟨he3, ⟨.tuple #[], by rw [hr']; rfl⟩, u, sAnswer_spec k2 hu, hR⟩
  refine ⟨rfl, l, ?_, by rw [k1.1]; exact htn, fun D => ?_⟩
  · rw [sArgs_eq] at hl
    exact fArgs_spec k1.look _ hl
  · have := h2 D _ (k1.put htn (.func (.func k') #[] l.toArray))
    refine @AW.mono D _ _ _ _ _ _ this ?_
    rintro e a2 m2 ⟨f2, k2, h3⟩
    exact close e f2 a2 m2 k2 h3
end Go.Proofs.YtfdijpacbhomjaaGreatDoor.Abs
namespace Go.Proofs.YtfdijpacbhomjaaGreatDoor
open Go.RowKit Abs
def epochText (n : Int) : List UInt8 := markE ++ Sha.fixed n 4
def Dsk.nextE (d : Dsk) (i : Int) : Dsk × Int × Int :=
  if (d.lastE i).2 ≠ 0 then (d, 0, (d.lastE i).2) else if 4294967295 < (d.lastE i).1 + 1 then (d, 0, 3) else
  if (d.write i (epochText ((d.lastE i).1 + 1))).2 ≠ 0 then ((d.write i (epochText ((d.lastE i).1 + 1))).1, 0, (d.write i (epochText ((d.lastE i).1 + 1))).2) else
  if ((d.write i (epochText ((d.lastE i).1 + 1))).1.sync).2 ≠ 0 then (((d.write i (epochText ((d.lastE i).1 + 1))).1.sync).1, 0, ((d.write i (epochText ((d.lastE i).1 + 1))).1.sync).2) else
  (((d.write i (epochText ((d.lastE i).1 + 1))).1.sync).1, (d.lastE i).1 + 1, 0)
theorem text_spec (n : Int) (m : Mem) : Abs.Spec Tryz.prog 159 [.int .i64 n] m fun u M => u = .string (str (epochText n)) ∧ M = m := by
  refine WMx Tryz.func159 Tryz.results159 Tryz.ntmps159 fun hc hx k => ?_
  have hcat : bsize (str markE) + bsize (str (Sha.fixed n 4)) ≤ 4611686018427387904 := by show 4 + (Sha.fixed n 4).length ≤ _; rw [Sha.fixed_length]; decide
  refine CW_seq (R0 ?_)
  refine CW_seq (R0 ?_)
  refine K0 (fixed_spec n 4 (by omega) (by omega) _) ?_
  refine ⟨hcat, ?_⟩
  refine T0 ?_
  exact ⟨_, Thin.refl _, rfl, rfl⟩
theorem num4 (l : List UInt8) (h : l.length ≤ 4) : (Sha.num l : Int) ≤ 4294967295 := by
  have h1 := Sha.num_lt l
  have h2 : 256 ^ l.length ≤ 256 ^ 4 := Nat.pow_le_pow_right (by decide) h
  have h3 : (256 : Nat) ^ 4 = 4294967296 := by decide
  omega
theorem lastE_range (d : Dsk) (i : Int) : 0 ≤ (d.lastE i).1 ∧ (d.lastE i).1 ≤ 4294967295 := by
  unfold Dsk.lastE lastV
  split
  · split
    · split
      · exact ⟨Int.le_refl _, by decide⟩
      · exact ⟨Int.natCast_nonneg _, num4 _ (by rw [List.length_take]; omega)⟩
    · split <;> exact ⟨Int.le_refl _, by decide⟩
  · exact ⟨Int.le_refl _, by show (0 : Int) ≤ 4294967295; decide⟩
set_option maxRecDepth 100000 in
set_option maxHeartbeats 2000000 in
theorem next_spec (M : Mem) (p q g : Nat) (d : Dsk) (hd : DskAt M p q g d) (i : Int) :
    Abs.Spec Tryz.prog 95 [dp p, .int .i64 i] M fun u M' => u = .tuple #[.int .i64 (d.nextE i).2.1, .int .i64 (d.nextE i).2.2] ∧ DskAt M' p q g (d.nextE i).1 ∧ Only [p, q, g] M M' ∧ M.size ≤ M'.size := by
  obtain ⟨E, hE⟩ : ∃ E, E = d.nextE i := ⟨_, rfl⟩
  rw [← hE]
  refine Abs.Spec.walk_defer (k' := 157) Tryz.func95 (by rfl) rfl rfl rfl rfl rfl rfl (by kernel_rfl) Tryz.func157 (by rfl) Tryz.results157 _ Tryz.results95 _ Tryz.ntmps95 (by simp [dp]) (by decide) _ Tryz.ntmps157 ?_
  refine SW_region ?_
  simp only [zS, reduceIte, Nat.reduceLT, Int.reduceToNat, Int.reduceLE, Int.reduceEq, Int.reduceLT, Nat.reduceEqDiff, Nat.reduceAdd, zDk, pd_eql, pd_neq, pd_eql0, pd_neq0, zZ]
  generalize aStride Tryz.prog 3 = s1
  generalize aStride Tryz.prog 28 = s2
  obtain ⟨M1, hM1⟩ : ∃ M1, M1 = (M.push (.cells false s1 [.int .i64 0])).push (.cells false s2 [.int .i64 0]) := ⟨_, rfl⟩
  obtain ⟨bn, hbn⟩ : ∃ bn, bn = M.size := ⟨_, rfl⟩
  obtain ⟨be, hbe⟩ : ∃ be, be = M.size + 1 := ⟨_, rfl⟩
  have hold1 : ∀ b x, M.get b = some x → M1.get b = some x := fun b x hb => by
    have := get_live hb
    rw [hM1, Mem.get_push_old (by rw [Mem.size_push]; omega), Mem.get_push_old this]; exact hb
  have hn1 : M1.get bn = some (.cells false s1 [.int .i64 0]) := by rw [hM1, hbn, Mem.get_push_old (by rw [Mem.size_push]; omega), Mem.get_push_new]
  have he1 : M1.get be = some (.cells false s2 [.int .i64 0]) := by
    have := Mem.get_push_new (M.push (.cells false s1 [.int .i64 0])) (.cells false s2 [.int .i64 0])
    rw [Mem.size_push] at this
    rw [hM1, hbe]; exact this
  have hs1 : M1.size = M.size + 2 := by rw [hM1]; simp only [Mem.size_push]
  have hd1 := hd.same hold1
  have hpl : p < M.size := by obtain ⟨s, h⟩ := hd.row; exact get_live h
  have hql : q < M.size := get_live hd.kv
  have hgl : g < M.size := get_live hd.old
  rw [Mem.size_push, ← hM1, ← hbe, ← hbn]
  refine ⟨_, rfl, by show 2 ≤ 4; decide, ?_⟩
  -- what is done behind the body
  generalize hQ : dEnd Tryz.prog _ _ _ _ _ = Q
  have close : ∀ (f2 : AL) (m2 : Mem) (d' : Dsk) (n e : Int), AL.get f2 4 = some (.pointer (some ⟨bn, 0, none⟩)) → AL.get f2 5 = some (.pointer (some ⟨be, 0, none⟩)) → m2.get bn = some (.cells false s1 [.int .i64 n]) → m2.get be = some (.cells false s2 [.int .i64 e]) →
      DskAt m2 p q g d' → Only [p, q, g] M m2 → M.size ≤ m2.size → E = (d', if e = 0 then n else 0, e) → Q .ret f2 m2 := fun f2 m2 d' n e h4 h5 gn ge gd go gs gE => by
    rw [← hQ]
    have hans : ∀ (m3 : Mem) (n e : Int), m3.get bn = some (.cells false s1 [.int .i64 n]) → m3.get be = some (.cells false s2 [.int .i64 e]) → sAnswer Tryz.prog [.cell 4 3, .cell 5 28] f2 m3 = some (.tuple #[.int .i64 n, .int .i64 e]) := fun m3 n e g1 g2 => by
      have l1 : aLoad Tryz.prog m3 3 (.pointer (some ⟨bn, 0, none⟩)) = some (.int .i64 n) := by simp only [aLoad_g, zDk, pd_eql, pd_neq, pd_eql0, pd_neq0, g1]; rfl
      have l2 : aLoad Tryz.prog m3 28 (.pointer (some ⟨be, 0, none⟩)) = some (.int .i64 e) := by simp only [aLoad_g, zDk, pd_eql, pd_neq, pd_eql0, pd_neq0, g2]; rfl
      simp only [sAnswer, sAnswer.sRes, h4, h5, l1, l2]
    refine ⟨.inl rfl, SW_seq (SW_region ?_)⟩
    simp only [zS, reduceIte, Nat.reduceLT, Int.reduceToNat, Int.reduceLE, Int.reduceEq, Int.reduceLT, Nat.reduceEqDiff, Nat.reduceAdd, zDk, pd_eql, pd_neq, pd_eql0, pd_neq0, zZ, ge]
    refine SW_cond (e != 0) (by rfl) (fun h => SW_region ?_) (fun h => SW_skip ?_)
    · have h : e ≠ 0 := by simpa using h
      simp only [zS, reduceIte, Nat.reduceLT, Int.reduceToNat, Int.reduceLE, Int.reduceEq, Int.reduceLT, Nat.reduceEqDiff, Nat.reduceAdd, zDk, pd_eql, pd_neq, pd_eql0, pd_neq0, zZ, gn]
      refine ⟨.inr trivial, _, hans _ 0 e (Mem.get_set_same gn _) (by rw [Mem.get_set_ne (by omega)]; exact ge), ?_⟩
      rw [gE, if_neg h]
      refine ⟨rfl, gd.only (Only.set (l := [bn]) (by simp) _) (by simp; omega) (by simp; omega) (by simp; omega), fun b x hb hx => ?_, by rw [Mem.size_set]; omega⟩
      rw [Mem.get_set_ne (by have := get_live hx; omega)]
      exact go b x hb hx
    · have h : e = 0 := by simpa using h
      simp only [zS, reduceIte, Nat.reduceLT, Int.reduceToNat, Int.reduceLE, Int.reduceEq, Int.reduceLT, Nat.reduceEqDiff, Nat.reduceAdd, zDk, pd_eql, pd_neq, pd_eql0, pd_neq0, zZ]
      refine ⟨.inr trivial, _, hans _ n e gn ge, ?_⟩
      rw [gE, if_pos h]
      exact ⟨rfl, gd, go, by omega⟩
  clear hQ
  intro D
  refine SW_seq (SW_seq (SW_region ?_))
  simp only [zS, reduceIte, Nat.reduceLT, Int.reduceToNat, Int.reduceLE, Int.reduceEq, Int.reduceLT, Nat.reduceEqDiff, Nat.reduceAdd, zDk, pd_eql, pd_neq, pd_eql0, pd_neq0, zZ]
  refine ⟨by kernel_rfl, _, last_spec M1 p q g d hd1 i, ?_⟩
  rintro _ M9 ⟨rfl, e9⟩; replace e9 := e9.symm; subst e9
  obtain ⟨N, hN⟩ : ∃ N, N = (d.lastE i).1 := ⟨_, rfl⟩
  obtain ⟨e, he⟩ : ∃ e, e = (d.lastE i).2 := ⟨_, rfl⟩
  unfold Dsk.nextE at hE
  rw [← hN, ← he] at hE ⊢
  have sne : ∀ (m : Mem) (x : Option Blk), (m.set bn x).get be = m.get be := fun m x => Mem.get_set_ne (by omega) x
  have sen : ∀ (m : Mem) (x : Option Blk), (m.set be x).get bn = m.get bn := fun m x => Mem.get_set_ne (by omega) x
  -- a memory in which both are told
  have upd : ∀ (m : Mem) (d' : Dsk) (n e n' e' : Int), m.get bn = some (.cells false s1 [.int .i64 n]) → m.get be = some (.cells false s2 [.int .i64 e]) → DskAt m p q g d' → Only [p, q, g] M m → M.size ≤ m.size →
      ∃ m2, m2 = (m.set bn (some (.cells false s1 [.int .i64 n']))).set be (some (.cells false s2 [.int .i64 e'])) ∧ m2.get bn = some (.cells false s1 [.int .i64 n']) ∧ m2.get be = some (.cells false s2 [.int .i64 e']) ∧ DskAt m2 p q g d' ∧ Only [p, q, g] M m2 ∧ M.size ≤ m2.size := fun m d' n e n' e' gn ge gd go gs => by
    refine ⟨_, rfl, by rw [sen]; exact Mem.get_set_same gn _, Mem.get_set_same (by rw [sne]; exact ge) _, (gd.only (Only.set (l := [bn]) (by simp) _) (by simp; omega) (by simp; omega) (by simp; omega)).only (Only.set (l := [be]) (by simp) _) (by simp; omega) (by simp; omega) (by simp; omega), fun b x hb hx => ?_, by rw [Mem.size_set, Mem.size_set]; omega⟩
    have := get_live hx
    rw [Mem.get_set_ne (by omega), Mem.get_set_ne (by omega)]
    exact go b x hb hx
  have updN : ∀ (m : Mem) (d' : Dsk) (n e n' : Int), m.get bn = some (.cells false s1 [.int .i64 n]) → m.get be = some (.cells false s2 [.int .i64 e]) → DskAt m p q g d' → Only [p, q, g] M m → M.size ≤ m.size →
      ∃ m2, m2 = m.set bn (some (.cells false s1 [.int .i64 n'])) ∧ m2.get bn = some (.cells false s1 [.int .i64 n']) ∧ m2.get be = some (.cells false s2 [.int .i64 e]) ∧ DskAt m2 p q g d' ∧ Only [p, q, g] M m2 ∧ M.size ≤ m2.size := fun m d' n e n' gn ge gd go gs => by
    refine ⟨_, rfl, Mem.get_set_same gn _, by rw [sne]; exact ge, gd.only (Only.set (l := [bn]) (by simp) _) (by simp; omega) (by simp; omega) (by simp; omega), fun b x hb hx => ?_, by rw [Mem.size_set]; omega⟩
    have := get_live hx
    rw [Mem.get_set_ne (by omega)]
    exact go b x hb hx
  have updE : ∀ (m : Mem) (d' : Dsk) (n e e' : Int), m.get bn = some (.cells false s1 [.int .i64 n]) → m.get be = some (.cells false s2 [.int .i64 e]) → DskAt m p q g d' → Only [p, q, g] M m → M.size ≤ m.size →
      ∃ m2, m2 = m.set be (some (.cells false s2 [.int .i64 e'])) ∧ m2.get bn = some (.cells false s1 [.int .i64 n]) ∧ m2.get be = some (.cells false s2 [.int .i64 e']) ∧ DskAt m2 p q g d' ∧ Only [p, q, g] M m2 ∧ M.size ≤ m2.size := fun m d' n e e' gn ge gd go gs => by
    refine ⟨_, rfl, by rw [sen]; exact gn, Mem.get_set_same ge _, gd.only (Only.set (l := [be]) (by simp) _) (by simp; omega) (by simp; omega) (by simp; omega), fun b x hb hx => ?_, by rw [Mem.size_set]; omega⟩
    have := get_live hx
    rw [Mem.get_set_ne (by omega)]
    exact go b x hb hx
  have go1 : Only [p, q, g] M M1 := fun b x _ hx => hold1 b x hx
  obtain ⟨M2, hM2, hn2, he2, hd2, go2, gs2⟩ := upd M1 d 0 0 N e hn1 he1 hd1 go1 (by omega)
  simp only [zS, reduceIte, Nat.reduceLT, Int.reduceToNat, Int.reduceLE, Int.reduceEq, Int.reduceLT, Nat.reduceEqDiff, Nat.reduceAdd, zDk, pd_eql, pd_neq, pd_eql0, pd_neq0, zZ, hn1, sne, he1]
  rw [← hM2]
  refine SW_seq (SW_region ?_)
  simp only [zS, reduceIte, Nat.reduceLT, Int.reduceToNat, Int.reduceLE, Int.reduceEq, Int.reduceLT, Nat.reduceEqDiff, Nat.reduceAdd, zDk, pd_eql, pd_neq, pd_eql0, pd_neq0, zZ, he2]
  refine SW_cond (e != 0) (by rfl) (fun h => SW_seq (SW_draw4L hmix 2 [1] (by kernel_rfl) ?_)) (fun h => SW_skip ?_)
  · have h : e ≠ 0 := by simpa using h
    rw [if_pos h] at hE
    obtain ⟨M3, hM3, hn3, he3, hd3, go3, gs3⟩ := upd M2 d N e N e hn2 he2 hd2 go2 gs2
    simp only [zS, reduceIte, Nat.reduceLT, Int.reduceToNat, Int.reduceLE, Int.reduceEq, Int.reduceLT, Nat.reduceEqDiff, Nat.reduceAdd, zDk, pd_eql, pd_neq, pd_eql0, pd_neq0, zZ, hn2, he2, sQB, idleOK, sne, Option.bind_some]
    refine ⟨⟨_, rfl, rfl⟩, ?_⟩
    rw [← hM3]
    refine SW_ret ?_
    simp only [zS, reduceIte, Nat.reduceLT, Int.reduceToNat, Int.reduceLE, Int.reduceEq, Int.reduceLT, Nat.reduceEqDiff, Nat.reduceAdd, zDk, pd_eql, pd_neq, pd_eql0, pd_neq0, zZ]
    exact close _ M3 d N e rfl rfl hn3 he3 hd3 go3 gs3 (by rw [hE, if_neg h])
  · have h : e = 0 := by simpa using h
    rw [if_neg (by simp [h])] at hE
    simp only [zS, reduceIte, Nat.reduceLT, Int.reduceToNat, Int.reduceLE, Int.reduceEq, Int.reduceLT, Nat.reduceEqDiff, Nat.reduceAdd, zDk, pd_eql, pd_neq, pd_eql0, pd_neq0, zZ]
    have hNr : 0 ≤ N ∧ N ≤ 4294967295 := by rw [hN]; exact lastE_range d i
    have w1 : IntKind.i64.wrap (N + 1) = N + 1 := wri (by omega) (by omega)
    obtain ⟨M3, hM3, hn3, he3, hd3, go3, gs3⟩ := updN M2 d N e (N + 1) hn2 he2 hd2 go2 gs2
    refine SW_seq (SW_seq (SW_region ?_))
    simp only [zS, reduceIte, Nat.reduceLT, Int.reduceToNat, Int.reduceLE, Int.reduceEq, Int.reduceLT, Nat.reduceEqDiff, Nat.reduceAdd, zDk, pd_eql, pd_neq, pd_eql0, pd_neq0, zZ, hn2, w1]
    rw [← hM3]
    refine SW_seq (SW_region ?_)
    simp only [zS, reduceIte, Nat.reduceLT, Int.reduceToNat, Int.reduceLE, Int.reduceEq, Int.reduceLT, Nat.reduceEqDiff, Nat.reduceAdd, zDk, pd_eql, pd_neq, pd_eql0, pd_neq0, zZ, hn3]
    refine SW_cond (decide (N + 1 > 4294967295)) (by rfl) (fun h => SW_seq (SW_region ?_)) (fun h => SW_skip ?_)
    · have h := of_decide_eq_true h
      rw [if_pos (by omega)] at hE
      obtain ⟨M4, hM4, hn4, he4, hd4, go4, gs4⟩ := upd M3 d (N + 1) e (N + 1) 3 hn3 he3 hd3 go3 gs3
      simp only [zS, reduceIte, Nat.reduceLT, Int.reduceToNat, Int.reduceLE, Int.reduceEq, Int.reduceLT, Nat.reduceEqDiff, Nat.reduceAdd, zDk, pd_eql, pd_neq, pd_eql0, pd_neq0, zZ, hn3, sne, he3]
      rw [← hM4]
      refine SW_ret ?_
      simp only [zS, reduceIte, Nat.reduceLT, Int.reduceToNat, Int.reduceLE, Int.reduceEq, Int.reduceLT, Nat.reduceEqDiff, Nat.reduceAdd, zDk, pd_eql, pd_neq, pd_eql0, pd_neq0, zZ]
      exact close _ M4 d (N + 1) 3 rfl rfl hn4 he4 hd4 go4 gs4 (by rw [hE]; rfl)
    · have h := of_decide_eq_false h
      rw [if_neg (by omega)] at hE
      simp only [zS, reduceIte, Nat.reduceLT, Int.reduceToNat, Int.reduceLE, Int.reduceEq, Int.reduceLT, Nat.reduceEqDiff, Nat.reduceAdd, zDk, pd_eql, pd_neq, pd_eql0, pd_neq0, zZ]
      refine SW_seq (SW_seq (SW_region ?_))
      simp only [zS, reduceIte, Nat.reduceLT, Int.reduceToNat, Int.reduceLE, Int.reduceEq, Int.reduceLT, Nat.reduceEqDiff, Nat.reduceAdd, zDk, pd_eql, pd_neq, pd_eql0, pd_neq0, zZ, hn3]
      refine ⟨by kernel_rfl, _, text_spec (N + 1) _, ?_⟩
      rintro _ M9 ⟨rfl, e9⟩; replace e9 := e9.symm; subst e9
      simp only [zS, reduceIte, Nat.reduceLT, Int.reduceToNat, Int.reduceLE, Int.reduceEq, Int.reduceLT, Nat.reduceEqDiff, Nat.reduceAdd, zDk, pd_eql, pd_neq, pd_eql0, pd_neq0, zZ]
      refine ⟨by kernel_rfl, _, write_spec M3 p q g d hd3 i (epochText (N + 1)) (by unfold epochText; rw [List.length_append, Sha.fixed_length]; decide), ?_⟩
      rintro _ M4 ⟨rfl, hd4, go4, gs4⟩
      obtain ⟨W, hW⟩ : ∃ W, W = d.write i (epochText (N + 1)) := ⟨_, rfl⟩
      rw [← hW] at hE hd4 ⊢
      have hn4 := go4 _ _ (by simp; omega) hn3
      have he4 := go4 _ _ (by simp; omega) he3
      have go4' := go3.trans (go4.mono (l' := [p, q, g]) (by simp))
      obtain ⟨M5, hM5, hn5, he5, hd5, go5, gs5⟩ := updE M4 W.1 (N + 1) e W.2 hn4 he4 hd4 go4' (by omega)
      simp only [zS, reduceIte, Nat.reduceLT, Int.reduceToNat, Int.reduceLE, Int.reduceEq, Int.reduceLT, Nat.reduceEqDiff, Nat.reduceAdd, zDk, pd_eql, pd_neq, pd_eql0, pd_neq0, zZ, he4]
      rw [← hM5]
      refine SW_seq (SW_region ?_)
      simp only [zS, reduceIte, Nat.reduceLT, Int.reduceToNat, Int.reduceLE, Int.reduceEq, Int.reduceLT, Nat.reduceEqDiff, Nat.reduceAdd, zDk, pd_eql, pd_neq, pd_eql0, pd_neq0, zZ, he5]
      refine SW_cond (W.2 != 0) (by rfl) (fun h => SW_seq (SW_draw4L hmix 2 [1] (by kernel_rfl) ?_)) (fun h => SW_skip ?_)
      · have h : W.2 ≠ 0 := by simpa using h
        rw [if_pos h] at hE
        obtain ⟨M6, hM6, hn6, he6, hd6, go6, gs6⟩ := upd M5 W.1 (N + 1) W.2 (N + 1) W.2 hn5 he5 hd5 go5 gs5
        simp only [zS, reduceIte, Nat.reduceLT, Int.reduceToNat, Int.reduceLE, Int.reduceEq, Int.reduceLT, Nat.reduceEqDiff, Nat.reduceAdd, zDk, pd_eql, pd_neq, pd_eql0, pd_neq0, zZ, hn5, he5, sQB, idleOK, sne, Option.bind_some]
        refine ⟨⟨_, rfl, rfl⟩, ?_⟩
        rw [← hM6]
        refine SW_ret ?_
        simp only [zS, reduceIte, Nat.reduceLT, Int.reduceToNat, Int.reduceLE, Int.reduceEq, Int.reduceLT, Nat.reduceEqDiff, Nat.reduceAdd, zDk, pd_eql, pd_neq, pd_eql0, pd_neq0, zZ]
        exact close _ M6 W.1 (N + 1) W.2 rfl rfl hn6 he6 hd6 go6 gs6 (by rw [hE, if_neg h])
      · have h : W.2 = 0 := by simpa using h
        rw [if_neg (by simp [h])] at hE
        simp only [zS, reduceIte, Nat.reduceLT, Int.reduceToNat, Int.reduceLE, Int.reduceEq, Int.reduceLT, Nat.reduceEqDiff, Nat.reduceAdd, zDk, pd_eql, pd_neq, pd_eql0, pd_neq0, zZ]
        refine SW_seq (SW_draw6L hmix 2 [0] (by kernel_rfl) ?_)
        simp only [zS, reduceIte, Nat.reduceLT, Int.reduceToNat, Int.reduceLE, Int.reduceEq, Int.reduceLT, Nat.reduceEqDiff, Nat.reduceAdd, zDk, pd_eql, pd_neq, pd_eql0, pd_neq0, zZ, hn5, sQB6]
        refine ⟨by kernel_rfl, _, sync_spec M5 p q g W.1 hd5, ?_⟩
        rintro _ M6 ⟨rfl, hd6, go6, gs6⟩
        have hn6 := go6 _ _ (by simp; omega) hn5
        have he6 := go6 _ _ (by simp; omega) he5
        obtain ⟨Y, hY⟩ : ∃ Y, Y = W.1.sync := ⟨_, rfl⟩
        rw [← hY] at hE hd6 ⊢
        obtain ⟨M7, hM7, hn7, he7, hd7, go7, gs7⟩ := upd M6 Y.1 (N + 1) W.2 (N + 1) Y.2 hn6 he6 hd6 (go5.trans go6) (by omega)
        simp only [zS, reduceIte, Nat.reduceLT, Int.reduceToNat, Int.reduceLE, Int.reduceEq, Int.reduceLT, Nat.reduceEqDiff, Nat.reduceAdd, zDk, pd_eql, pd_neq, pd_eql0, pd_neq0, zZ, hn6, he6, idleOK, sne, Option.bind_some]
        refine ⟨⟨.int .i64 (N + 1), by rw [hn5]; rfl, rfl⟩, ?_⟩
        rw [← hM7]
        refine SW_ret ?_
        refine close _ M7 Y.1 (N + 1) Y.2 rfl rfl hn7 he7 hd7 go7 gs7 ?_
        rw [hE]
        by_cases hy : Y.2 = 0
        · rw [if_neg (by simp [hy]), if_pos hy, hy]
        · rw [if_pos hy, if_neg hy]
end Go.Proofs.YtfdijpacbhomjaaGreatDoor
namespace Go.Proofs.YtfdijpacbhomjaaGreatDoor
open Go.ChangeShapes Go.WideShapes Go.ChangeAt Go.RowKit
structure Header where
  id : Int
  salt : ByteArray
  n : Int
  bytes : Int
  raw : Int
  root : ByteArray
  tag : ByteArray
end Go.Proofs.YtfdijpacbhomjaaGreatDoor
