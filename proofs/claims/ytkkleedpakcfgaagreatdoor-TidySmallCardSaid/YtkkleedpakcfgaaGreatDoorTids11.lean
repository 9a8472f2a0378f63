/-
  Loads, stores, addresses, new blocks of the types that a disk's world has.
  A disk, in plain words: what is synced, what was written since; what its methods answer.
  Pointers, compared.
  What stays of a memory.
  What an operation leaves alone in memory.
  Sums within bounds; the lesser and the greater.
  The steps of a walk, each in one lemma.
  The walks of a disk's methods.
  The walk of a disk's Sync.
  Disk.Sync, with the memory behind it told exactly (for the machine as a function): the range's iterator is forgotten.
  Disk.Sync, for the machine as a function.
  The walks of the epoch's sector.
  A function that is to do something behind its body.
  A function that is to do something behind its body: its walk.
-/
import Derived.Test.YtkkleedpakcfgaaGreatDoorTids10
import Derived.Test.YtkkleedpakcfgaaGreatDoorTids09
import Derived.Test.YtkkleedpakcfgaaGreatDoorTids03
import Derived.Test.YtkkleedpakcfgaaGreatDoorTids06
import Derived.Defers
set_option linter.all false
namespace Go.Proofs.YtkkleedpakcfgaaGreatDoor
open Go.RowKit Abs
theorem bx_Dsk (xs : Array Value) (h : oneAll xs.toList = true) : nBox Tryz.prog 52 (.agg xs) = some (.cells false (aStride Tryz.prog 52) xs.toList) := nBox_row 52 h
theorem fa_Dsk0 (b o : Nat) : aFieldAddr Tryz.prog 52 (.pointer (some ⟨b, o, none⟩)) 0 = some (.pointer (some ⟨b, o, none⟩)) := by kernel_rfl
theorem fa_Dsk1 (b o : Nat) : aFieldAddr Tryz.prog 52 (.pointer (some ⟨b, o, none⟩)) 1 = some (.pointer (some ⟨b, o + 1, none⟩)) := by kernel_rfl
theorem fa_Dsk2 (b o : Nat) : aFieldAddr Tryz.prog 52 (.pointer (some ⟨b, o, none⟩)) 2 = some (.pointer (some ⟨b, o + 2, none⟩)) := by kernel_rfl
theorem fa_Dsk3 (b o : Nat) : aFieldAddr Tryz.prog 52 (.pointer (some ⟨b, o, none⟩)) 3 = some (.pointer (some ⟨b, o + 3, none⟩)) := by kernel_rfl
theorem inf_Ext : Tryz.prog.info? 64 = some Tryz.t64 := by kernel_rfl
theorem ld_Ext (get : Nat → Option Blk) (b o : Nat) : gLoad Tryz.prog get 64 (.pointer (some ⟨b, o, none⟩)) = rowIn 8 o (get b) := ld_row Tryz.underlying64 (row_struct _) inf_Ext rfl get b o
theorem st_Ext (m : Mem) (b o : Nat) (v : Value) : aStore Tryz.prog m 64 (.pointer (some ⟨b, o, none⟩)) v = putIn 8 m b o v.cells.toList (m.get b) := st_any inf_Ext rfl m b o v
theorem al_Ext : nAlloc Tryz.prog 64 = some (.cells false (aStride Tryz.prog 64) [.int .i64 0, .string ⟨#[]⟩, .int .i64 0, .int .i64 0, .int .i64 0, .string ⟨#[]⟩, .string ⟨#[]⟩, .int .i64 0]) := by kernel_rfl
theorem inf_Rec : Tryz.prog.info? 129 = some Tryz.t129 := by kernel_rfl
theorem ld_Rec (get : Nat → Option Blk) (b o : Nat) : gLoad Tryz.prog get 129 (.pointer (some ⟨b, o, none⟩)) = rowIn 13 o (get b) := ld_row Tryz.underlying129 (row_struct _) inf_Rec rfl get b o
theorem st_Rec (m : Mem) (b o : Nat) (v : Value) : aStore Tryz.prog m 129 (.pointer (some ⟨b, o, none⟩)) v = putIn 13 m b o v.cells.toList (m.get b) := st_any inf_Rec rfl m b o v
theorem al_Rec : nAlloc Tryz.prog 129 = some (.cells false (aStride Tryz.prog 129) [.int .i64 0, .string ⟨#[]⟩, .int .i64 0, .int .i64 0, .int .i64 0, .string ⟨#[]⟩, .string ⟨#[]⟩, .int .i64 0, .int .i64 0, .int .u64 0, .int .u64 0, .int .u64 0, .int .u64 0]) := by kernel_rfl
theorem inf_Plc : Tryz.prog.info? 66 = some Tryz.t66 := by kernel_rfl
theorem st_Plc (m : Mem) (b o : Nat) (v : Value) : aStore Tryz.prog m 66 (.pointer (some ⟨b, o, none⟩)) v = putIn 10 m b o v.cells.toList (m.get b) := st_any inf_Plc rfl m b o v
theorem al_Plc : nAlloc Tryz.prog 66 = some (.cells false (aStride Tryz.prog 66) [.int .i64 0, .string ⟨#[]⟩, .int .i64 0, .int .i64 0, .int .i64 0, .string ⟨#[]⟩, .string ⟨#[]⟩, .int .i64 0, .int .i64 0, .bool false]) := by kernel_rfl
theorem inf_Mv : Tryz.prog.info? 60 = some Tryz.t60 := by kernel_rfl
theorem st_Mv (m : Mem) (b o : Nat) (v : Value) : aStore Tryz.prog m 60 (.pointer (some ⟨b, o, none⟩)) v = putIn 3 m b o v.cells.toList (m.get b) := st_any inf_Mv rfl m b o v
theorem al_Mv : nAlloc Tryz.prog 60 = some (.cells false (aStride Tryz.prog 60) [.int .i64 0, .int .i64 0, .int .i64 0]) := by kernel_rfl
theorem inf_Str : Tryz.prog.info? 9 = some Tryz.t9 := by kernel_rfl
theorem ld_Str (get : Nat → Option Blk) (b o : Nat) : gLoad Tryz.prog get 9 (.pointer (some ⟨b, o, none⟩)) = cellIn o (get b) := ld_cell Tryz.underlying9 rfl get b o
theorem st_Str (m : Mem) (b o : Nat) (v : Value) : aStore Tryz.prog m 9 (.pointer (some ⟨b, o, none⟩)) v = putIn 1 m b o v.cells.toList (m.get b) := st_any inf_Str rfl m b o v
theorem inf_Int : Tryz.prog.info? 3 = some Tryz.t3 := by kernel_rfl
theorem ld_Int (get : Nat → Option Blk) (b o : Nat) : gLoad Tryz.prog get 3 (.pointer (some ⟨b, o, none⟩)) = cellIn o (get b) := ld_cell Tryz.underlying3 rfl get b o
theorem st_Int (m : Mem) (b o : Nat) (v : Value) : aStore Tryz.prog m 3 (.pointer (some ⟨b, o, none⟩)) v = putIn 1 m b o v.cells.toList (m.get b) := st_any inf_Int rfl m b o v
theorem al_Int : nAlloc Tryz.prog 3 = some (.cells false (aStride Tryz.prog 3) [.int .i64 0]) := by kernel_rfl
theorem inf_Bool : Tryz.prog.info? 4 = some Tryz.t4 := by kernel_rfl
theorem ld_Bool (get : Nat → Option Blk) (b o : Nat) : gLoad Tryz.prog get 4 (.pointer (some ⟨b, o, none⟩)) = cellIn o (get b) := ld_cell Tryz.underlying4 rfl get b o
theorem st_Bool (m : Mem) (b o : Nat) (v : Value) : aStore Tryz.prog m 4 (.pointer (some ⟨b, o, none⟩)) v = putIn 1 m b o v.cells.toList (m.get b) := st_any inf_Bool rfl m b o v
theorem ld_SS (get : Nat → Option Blk) (b o : Nat) : gLoad Tryz.prog get 31 (.pointer (some ⟨b, o, none⟩)) = cellIn o (get b) := ld_cell Tryz.underlying31 rfl get b o
theorem inf_Err : Tryz.prog.info? 23 = some Tryz.t23 := by kernel_rfl
theorem ld_Err (get : Nat → Option Blk) (b o : Nat) : gLoad Tryz.prog get 23 (.pointer (some ⟨b, o, none⟩)) = cellIn o (get b) := ld_cell Tryz.underlying23 rfl get b o
theorem st_Err (m : Mem) (b o : Nat) (v : Value) : aStore Tryz.prog m 23 (.pointer (some ⟨b, o, none⟩)) v = putIn 1 m b o v.cells.toList (m.get b) := st_any inf_Err rfl m b o v
theorem al_Err : nAlloc Tryz.prog 23 = some (.cells false (aStride Tryz.prog 23) [.int .i64 0]) := by kernel_rfl
theorem ld_Map (get : Nat → Option Blk) (b o : Nat) : gLoad Tryz.prog get 50 (.pointer (some ⟨b, o, none⟩)) = cellIn o (get b) := ld_cell Tryz.underlying50 rfl get b o
theorem ld_PD (get : Nat → Option Blk) (b o : Nat) : gLoad Tryz.prog get 22 (.pointer (some ⟨b, o, none⟩)) = cellIn o (get b) := ld_cell Tryz.underlying22 rfl get b o
theorem ld_Plcs (get : Nat → Option Blk) (b o : Nat) : gLoad Tryz.prog get 56 (.pointer (some ⟨b, o, none⟩)) = cellIn o (get b) := ld_cell Tryz.underlying56 rfl get b o
theorem al_Plcs : nAlloc Tryz.prog 56 = some (.cells false (aStride Tryz.prog 56) [.slice none 0 0]) := by kernel_rfl
theorem cl_int (k : IntKind) (n : Int) : (Value.int k n).cells.toList = [.int k n] := rfl
theorem oc_int (k : IntKind) (n : Int) : (Value.int k n).oneCell' = true := rfl
theorem cl_string (s : ByteArray) : (Value.string s).cells.toList = [.string s] := rfl
theorem cl_bool (b : Bool) : (Value.bool b).cells.toList = [.bool b] := rfl
theorem oc_bool (b : Bool) : (Value.bool b).oneCell' = true := rfl
theorem oa_cons (v : Value) (r : List Value) : oneAll (v :: r) = (v.oneCell' && oneAll r) := rfl
theorem oa_nil : oneAll [] = true := rfl
theorem undef_eq : undef = .tuple #[] := rfl
theorem pt_1_0_1 (m : Mem) (j s : Nat) (a0 x0 : Value) (h : oneAll [x0] = true) : putIn 1 m j 0 [x0] (some (.cells false s [a0])) = some (m.set j (some (.cells false s [x0]))) := if_pos ⟨rfl, Nat.le_of_ble_eq_true rfl, h⟩
theorem pt_4_2_1 (m : Mem) (j s : Nat) (a0 a1 a2 a3 x0 : Value) (h : oneAll [x0] = true) : putIn 1 m j 2 [x0] (some (.cells false s [a0, a1, a2, a3])) = some (m.set j (some (.cells false s [a0, a1, x0, a3]))) := if_pos ⟨rfl, Nat.le_of_ble_eq_true rfl, h⟩
theorem pt_4_3_1 (m : Mem) (j s : Nat) (a0 a1 a2 a3 x0 : Value) (h : oneAll [x0] = true) : putIn 1 m j 3 [x0] (some (.cells false s [a0, a1, a2, a3])) = some (m.set j (some (.cells false s [a0, a1, a2, x0]))) := if_pos ⟨rfl, Nat.le_of_ble_eq_true rfl, h⟩
def zDk := And.intro (And.intro (And.intro (And.intro (And.intro @fa_Dsk0 (And.intro @fa_Dsk1 @fa_Dsk2)) (And.intro @fa_Dsk3 (And.intro @ld_Ext @st_Ext))) (And.intro (And.intro @ld_Rec (And.intro @st_Rec @st_Plc)) (And.intro @al_Plc (And.intro @st_Mv @al_Mv)))) (And.intro (And.intro (And.intro @ld_Str (And.intro @st_Str @ld_Int)) (And.intro @st_Int (And.intro @al_Int @ld_Bool))) (And.intro (And.intro @st_Bool (And.intro @ld_SS @ld_Err)) (And.intro @st_Err (And.intro @al_Err @ld_Map))))) (And.intro (And.intro (And.intro (And.intro @ld_PD (And.intro @ld_Plcs Tryz.underlying9)) (And.intro Tryz.underlying3 (And.intro Tryz.underlying5 Tryz.underlying105))) (And.intro (And.intro Tryz.underlying31 (And.intro Tryz.underlying74 Tryz.underlying37)) (And.intro Tryz.underlying26 (And.intro @cl_int @oc_int)))) (And.intro (And.intro (And.intro @cl_string (And.intro @cl_bool @oc_bool)) (And.intro @oa_cons (And.intro @oa_nil @undef_eq))) (And.intro (And.intro @Bool.and_self (And.intro @agg_cells @setL.eq_1)) (And.intro (And.intro @setL.eq_2 @pt_1_0_1) (And.intro @pt_4_2_1 @pt_4_3_1)))))
end Go.Proofs.YtkkleedpakcfgaaGreatDoor
namespace Go.Proofs.YtkkleedpakcfgaaGreatDoor
open Go.RowKit Abs
abbrev LastL := List (Nat × List UInt8 × Nat)
structure Dsk where
  old : List (List UInt8)
  last : LastL
  clock : Nat
  fuse : Int
  dead : Bool
def lastOf (L : LastL) (i : Nat) : Option (List UInt8) := (L.find? fun x => x.1 == i).map (·.2.1)
def ents (L : LastL) : List MapEntry := L.map fun x => ⟨.int .i64 (x.1 : Nat), .string (str x.2.1), x.2.2⟩
structure Dsk.Ok (d : Dsk) : Prop where
  n : d.old.length ≤ 1024
  pos : 0 < d.old.length
  size : ∀ s ∈ d.old, s.length = 256
  keys : (d.last.map (·.1)).Nodup
  born : (d.last.map (·.2.2)).Nodup
  clock : ∀ x ∈ d.last, x.2.2 < d.clock
  within : ∀ x ∈ d.last, x.1 < d.old.length ∧ x.2.1.length = 256
  fuse : -1 ≤ d.fuse ∧ d.fuse ≤ 9223372036854775807
  old_big : True
def Dsk.may (d : Dsk) (i : Int) : Int := if d.dead = true then 7 else if i < 0 ∨ (d.old.length : Int) ≤ i then 10 else 0
def Dsk.sector (d : Dsk) (i : Nat) : List UInt8 := (lastOf d.last i).getD ((d.old[i]?).getD [])
def Dsk.read (d : Dsk) (i : Int) : List UInt8 × Int := if d.may i = 0 then (d.sector i.toNat, 0) else ([], d.may i)
def Dsk.burnt (d : Dsk) : Dsk := if d.fuse = 0 then { d with dead := true } else { d with fuse := max (d.fuse - 1) (-1) }
def filled (s : List UInt8) : List UInt8 := s ++ List.replicate (256 - s.length) 0
def syncV (old : List (List UInt8)) (L : LastL) (seen : List Nat) : List (List UInt8) :=
  old.mapIdx fun i o => match L.find? fun x => x.1 == i && seen.contains x.2.2 with | some x => x.2.1 | none => o
def Dsk.synced (d : Dsk) : Dsk := { d with old := d.old.mapIdx fun i o => (lastOf d.last i).getD o, last := [] }
def Dsk.sync (d : Dsk) : Dsk × Int := if d.may 0 ≠ 0 then (d, d.may 0) else if d.fuse = 0 then (d.burnt, 7) else (d.burnt.synced, 0)
theorem find_congr {α : Type} {p q : α → Bool} : ∀ {l : List α}, (∀ x ∈ l, p x = q x) → l.find? p = l.find? q
  | [], _ => rfl
  | a :: l, h => by
    simp only [List.find?_cons, h a List.mem_cons_self, find_congr fun x hx => h x (List.mem_cons_of_mem _ hx)]
theorem lastOf_some {L : LastL} {i : Nat} {s : List UInt8} (h : lastOf L i = some s) : ∃ b, (i, s, b) ∈ L := by
  unfold lastOf at h
  rw [Option.map_eq_some_iff] at h
  obtain ⟨x, hx, rfl⟩ := h
  have h1 := List.mem_of_find?_eq_some hx
  have h2 := List.find?_some hx
  simp only [beq_iff_eq] at h2
  exact ⟨x.2.2, by rw [← h2]; exact h1⟩
theorem nodup_fst {L : LastL} (h : (L.map (·.1)).Nodup) {x y : Nat × List UInt8 × Nat} (hx : x ∈ L) (hy : y ∈ L) (e : x.1 = y.1) : x = y := by
  induction L with
  | nil => cases hx
  | cons a L ih =>
    rw [List.map_cons, List.nodup_cons] at h
    rcases List.mem_cons.1 hx with rfl | hx' <;> rcases List.mem_cons.1 hy with rfl | hy'
    · rfl
    · exact absurd (List.mem_map.2 ⟨y, hy', e.symm⟩) h.1
    · exact absurd (List.mem_map.2 ⟨x, hx', e⟩) h.1
    · exact ih h.2 hx' hy'
theorem ents_findNow (i : Nat) : ∀ (L : LastL) (k : Nat), (lastOf L i = none ∧ Instr.findNow (.int .i64) (.int .i64 (i : Nat)) (ents L) k = some none) ∨
    ∃ j x, lastOf L i = some x.2.1 ∧ x.1 = i ∧ L[j]? = some x ∧ Instr.findNow (.int .i64) (.int .i64 (i : Nat)) (ents L) k = some (some (k + j, .string (str x.2.1)))
  | [], k => .inl ⟨rfl, rfl⟩
  | y :: L, k => by
    by_cases e : y.1 = i
    · right
      refine ⟨0, y, ?_, e, rfl, ?_⟩
      · unfold lastOf; rw [List.find?_cons_of_pos (by simpa using e)]; rfl
      · simp [ents, Instr.findNow, Instr.sameNow, e]
    · have h1 : lastOf (y :: L) i = lastOf L i := by unfold lastOf; rw [List.find?_cons_of_neg (by simpa using e)]
      have h2 : Instr.findNow (.int .i64) (.int .i64 (i : Nat)) (ents (y :: L)) k = Instr.findNow (.int .i64) (.int .i64 (i : Nat)) (ents L) (k + 1) := by
        have e' : ((i : Int) == (y.1 : Int)) = false := by simp; omega
        simp only [ents, List.map_cons, Instr.findNow, Instr.sameNow, if_true, e']
      rw [h1, h2]
      rcases ents_findNow i L (k + 1) with h | ⟨j, x, h3, h4, h5, h6⟩
      · exact .inl h
      · exact .inr ⟨j + 1, x, h3, h4, by simpa using h5, by rw [h6]; congr 3; omega⟩
theorem kt_map : Tryz.prog.underlying 50 = some (.map 3 9) := Tryz.underlying50
theorem look_dsk {get : Nat → Option Blk} {q : Nat} {r : Bool} {L : LastL} {c : Nat} (h : get q = some (.kv r (ents L) c)) (i : Nat) :
    aLookup Tryz.prog get 50 (.map (some q)) (.int .i64 (i : Nat)) true = some (.tuple #[.string (str ((lastOf L i).getD [])), .bool (lastOf L i).isSome]) := by
  have hi : Tryz.prog.underlying 3 = some (.int .i64) := Tryz.underlying3
  have hs : Tryz.prog.info? 9 = some Tryz.t9 := inf_Str
  have hz : Tryz.t9.zero = some (.string ⟨#[]⟩) := rfl
  unfold aLookup aFind aKV
  rw [kt_map]
  simp only [hs, hz, flat, if_true, h, hi, aKey, decide_true]
  rcases ents_findNow i L 0 with ⟨h1, h2⟩ | ⟨j, x, h1, _, _, h2⟩
  · rw [h1, h2]; rfl
  · rw [h1, h2]; rfl
theorem clear_dsk {m : Mem} {q : Nat} {es : List MapEntry} {c : Nat} (h : m.get q = some (.kv false es c)) : aClear Tryz.prog m 50 (.map (some q)) = some (m.set q (some (.kv false (ents []) c))) := by
  unfold aClear
  rw [kt_map]
  simp only [h]
  rfl
theorem range_dsk {m : Mem} {q : Nat} {r : Bool} {es : List MapEntry} {c : Nat} (h : m.get q = some (.kv r es c)) : aRange Tryz.prog m 50 (.map (some q)) = some (.pointer (some ⟨m.size, 0, none⟩), m.push (.it false q c [] c)) := by
  unfold aRange
  rw [kt_map]
  simp only [h]
theorem Dsk.Ok.burnt {d : Dsk} (h : d.Ok) : d.burnt.Ok := by
  unfold Dsk.burnt
  split
  · exact ⟨h.n, h.pos, h.size, h.keys, h.born, h.clock, h.within, h.fuse, trivial⟩
  · have hf := h.fuse
    exact ⟨h.n, h.pos, h.size, h.keys, h.born, h.clock, h.within, by simp only; omega, trivial⟩
theorem burnt_old (d : Dsk) : d.burnt.old = d.old := by unfold Dsk.burnt; split <;> rfl
theorem burnt_last (d : Dsk) : d.burnt.last = d.last := by unfold Dsk.burnt; split <;> rfl
theorem burnt_clock (d : Dsk) : d.burnt.clock = d.clock := by unfold Dsk.burnt; split <;> rfl
theorem Dsk.Ok.sector {d : Dsk} (h : d.Ok) {i : Nat} (hi : i < d.old.length) : (d.sector i).length = 256 := by
  unfold Dsk.sector
  cases hl : lastOf d.last i with
  | some s =>
    obtain ⟨b, hb⟩ := lastOf_some hl
    exact (h.within _ hb).2
  | none =>
    rw [List.getElem?_eq_getElem hi]
    exact h.size _ (List.getElem_mem hi)
theorem Dsk.Ok.synced {d : Dsk} (h : d.Ok) : d.synced.Ok := by
  unfold Dsk.synced
  refine ⟨by simpa using h.n, by simpa using h.pos, fun s hs => ?_, by simp, by simp, fun x hx => by simp at hx, fun x hx => by simp at hx, h.fuse, trivial⟩
  simp only at hs
  rw [List.mem_mapIdx] at hs
  obtain ⟨i, hi, rfl⟩ := hs
  have := h.sector hi
  unfold Dsk.sector at this
  rw [List.getElem?_eq_getElem hi] at this
  exact this
theorem syncV_nil (old : List (List UInt8)) (L : LastL) : syncV old L [] = old := by
  unfold syncV
  have : ∀ i : Nat, L.find? (fun x => x.1 == i && ([] : List Nat).contains x.2.2) = none := fun i => by rw [List.find?_eq_none]; simp
  simp only [this]
  apply List.ext_getElem?
  intro i
  simp
theorem syncV_len (old : List (List UInt8)) (L : LastL) (seen : List Nat) : (syncV old L seen).length = old.length := by unfold syncV; simp
theorem syncV_step {old : List (List UInt8)} {L : LastL} {seen : List Nat} (hk : (L.map (·.1)).Nodup) {x : Nat × List UInt8 × Nat} (hx : x ∈ L) : (syncV old L seen).set x.1 x.2.1 = syncV old L (seen ++ [x.2.2]) ∨ ∃ y ∈ L, y ≠ x ∧ y.2.2 = x.2.2 := by
  by_cases hd : ∃ y ∈ L, y ≠ x ∧ y.2.2 = x.2.2
  · exact .inr hd
  · left
    apply List.ext_getElem?
    intro i
    rw [List.getElem?_set]
    unfold syncV
    simp only [List.length_mapIdx, List.getElem?_mapIdx]
    cases ho : old[i]? with
    | none =>
      have : ¬ i < old.length := by have := List.getElem?_eq_none_iff.1 ho; omega
      by_cases e : x.1 = i
      · simp [e, this]
      · simp [e]
    | some o =>
      have hlt : i < old.length := (List.getElem?_eq_some_iff.1 ho).1
      by_cases e : x.1 = i
      · have hf : L.find? (fun y => y.1 == i && (seen ++ [x.2.2]).contains y.2.2) = some x := by
          have hex : L.find? (fun y => y.1 == i && (seen ++ [x.2.2]).contains y.2.2) ≠ none := by
            rw [Ne, List.find?_eq_none]
            intro h
            exact h x hx (by simp [e])
          obtain ⟨y, hy⟩ := Option.ne_none_iff_exists'.1 hex
          have h1 := List.mem_of_find?_eq_some hy
          have h2 := List.find?_some hy
          simp only [Bool.and_eq_true, beq_iff_eq] at h2
          rw [hy, nodup_fst hk h1 hx (by rw [h2.1, e])]
        rw [if_pos e, if_pos (by rw [e]; exact hlt), Option.map_some, hf]
      · simp only [e, if_false, Option.map_some]
        congr 1
        have : L.find? (fun y => y.1 == i && seen.contains y.2.2) = L.find? (fun y => y.1 == i && (seen ++ [x.2.2]).contains y.2.2) := by
          apply find_congr
          intro y hy
          by_cases e2 : y.1 = i
          · have : y.2.2 ≠ x.2.2 := fun h => hd ⟨y, hy, fun h' => e (by rw [← h']; exact e2), h⟩
            simp [this]
          · have : (y.1 == i) = false := by simpa using e2
            rw [this]; rfl
        rw [this]
theorem syncV_all {old : List (List UInt8)} {L : LastL} {seen : List Nat} (h : aLeft (ents L) seen = []) : syncV old L seen = old.mapIdx fun i o => (lastOf L i).getD o := by
  have hall : ∀ x ∈ L, seen.contains x.2.2 = true := fun x hx => by
    unfold aLeft at h
    rw [List.filter_eq_nil_iff] at h
    have := h ⟨.int .i64 (x.1 : Nat), .string (str x.2.1), x.2.2⟩ (List.mem_map.2 ⟨x, hx, rfl⟩)
    simpa using this
  unfold syncV
  apply List.ext_getElem?
  intro i
  simp only [List.getElem?_mapIdx]
  cases ho : old[i]? with
  | none => rfl
  | some o =>
    simp only [Option.map_some]
    congr 1
    have : L.find? (fun y => y.1 == i && seen.contains y.2.2) = L.find? (fun y => y.1 == i) := by
      apply find_congr
      intro y hy
      rw [hall y hy, Bool.and_true]
    rw [this]
    unfold lastOf
    cases L.find? (fun y => y.1 == i) <;> rfl
theorem aLeft_mem {L : LastL} {seen : List Nat} {e : MapEntry} (h : e ∈ aLeft (ents L) seen) : ∃ x ∈ L, e = ⟨.int .i64 (x.1 : Nat), .string (str x.2.1), x.2.2⟩ ∧ seen.contains x.2.2 = false := by
  unfold aLeft at h
  rw [List.mem_filter] at h
  obtain ⟨h1, h2⟩ := h
  obtain ⟨x, hx, rfl⟩ := List.mem_map.1 h1
  exact ⟨x, hx, rfl, by simpa using h2⟩
theorem aLeft_less {L : LastL} {seen : List Nat} {e : MapEntry} (h : e ∈ aLeft (ents L) seen) : (aLeft (ents L) (seen ++ [e.born])).length < (aLeft (ents L) seen).length := by
  have : aLeft (ents L) (seen ++ [e.born]) = (aLeft (ents L) seen).filter fun x => !(x.born == e.born) := by
    unfold aLeft
    rw [List.filter_filter]
    apply List.filter_congr
    intro x _
    cases h1 : seen.contains x.born <;> cases h2 : (x.born == e.born) <;> simp_all
  rw [this]
  exact List.length_filter_lt_length_iff_exists.2 ⟨e, h, by simp⟩
theorem ents_find {L : LastL} (hb : (L.map (·.2.2)).Nodup) {x : Nat × List UInt8 × Nat} (hx : x ∈ L) : (ents L).find? (fun e => e.born == x.2.2) = some ⟨.int .i64 (x.1 : Nat), .string (str x.2.1), x.2.2⟩ := by
  induction L with
  | nil => cases hx
  | cons a L ih =>
    rw [List.map_cons, List.nodup_cons] at hb
    unfold ents
    rw [List.map_cons]
    rcases List.mem_cons.1 hx with rfl | hx'
    · rw [List.find?_cons_of_pos (by simp)]
    · have : a.2.2 ≠ x.2.2 := fun e => hb.1 (List.mem_map.2 ⟨x, hx', e.symm⟩)
      rw [List.find?_cons_of_neg (by simpa using this)]
      exact ih hb.2 hx'
end Go.Proofs.YtkkleedpakcfgaaGreatDoor
namespace Go.Proofs.YtkkleedpakcfgaaGreatDoor
open Go.RowKit Abs
theorem pd_eql (p o : Nat) : aBin Tryz.prog .eql 22 true (.pointer (some ⟨p, o, none⟩)) (.pointer none) = some (.bool false) := by kernel_rfl
theorem pd_neq (p o : Nat) : aBin Tryz.prog .neq 22 true (.pointer (some ⟨p, o, none⟩)) (.pointer none) = some (.bool true) := by kernel_rfl
theorem pd_eql0 : aBin Tryz.prog .eql 22 true (.pointer none) (.pointer none) = some (.bool true) := by kernel_rfl
theorem pd_neq0 : aBin Tryz.prog .neq 22 true (.pointer none) (.pointer none) = some (.bool false) := by kernel_rfl
theorem pr_eql (p o : Nat) : aBin Tryz.prog .eql 160 true (.pointer (some ⟨p, o, none⟩)) (.pointer none) = some (.bool false) := by kernel_rfl
def zPt := @pr_eql
end Go.Proofs.YtkkleedpakcfgaaGreatDoor
namespace Go.Proofs.YtkkleedpakcfgaaGreatDoor
open Go.RowKit Abs
theorem get_live {M : Mem} {b : Nat} {x : Blk} (h : M.get b = some x) : b < M.size := Mem.get_lt h
end Go.Proofs.YtkkleedpakcfgaaGreatDoor
namespace Go.Proofs.YtkkleedpakcfgaaGreatDoor
open Go.RowKit Abs
def Only (l : List Nat) (M M' : Mem) : Prop := ∀ b x, b ∉ l → M.get b = some x → M'.get b = some x
theorem Only.trans {l : List Nat} {A B C : Mem} (h : Only l A B) (k : Only l B C) : Only l A C := fun b x hb hx => k b x hb (h b x hb hx)
theorem Only.set {l : List Nat} {M : Mem} {b : Nat} (hb : b ∈ l) (o : Option Blk) : Only l M (M.set b o) := fun c x hc hx => by
  rw [Mem.get_set_ne (fun e => hc (by rw [← e]; exact hb))]; exact hx
theorem Only.push (l : List Nat) (M : Mem) (x : Blk) : Only l M (M.push x) := fun b y _ hy => by rw [Mem.get_push_old (get_live hy)]; exact hy
end Go.Proofs.YtkkleedpakcfgaaGreatDoor
namespace Go.Proofs.YtkkleedpakcfgaaGreatDoor.Abs
open Go
theorem wri {x : Int} (h0 : -9223372036854775808 ≤ x) (h1 : x ≤ 9223372036854775807) : IntKind.i64.wrap x = x := by
  unfold IntKind.wrap; simp [IntKind.bits, IntKind.signed]; omega
theorem vMax_int (a b : Int) : vMin false [.int .i64 a, .int .i64 b] = some (.int .i64 (max a b)) := by
  simp only [vMin, evMin, aMin2]
  by_cases h : b > a
  · simp [h]; omega
  · simp [h]; omega
end Go.Proofs.YtkkleedpakcfgaaGreatDoor.Abs
namespace Go.Proofs.YtkkleedpakcfgaaGreatDoor.Abs
open Go Go.RowKit
def zA := And.intro (And.intro @zZ @zDk) (And.intro @pd_eql @zPt)
section
variable {n k : Nat} {f : AL} {m : Mem} {Q : Exit → AL → Mem → Prop} {B : Prop}
theorem CF {c : Operand} {x y : Code} (h : @CW Tryz.prog n k ⟨y⟩ ⟨Q⟩ f m) (hc : AL.look f c = some (.bool false) := by rfl) : @CW Tryz.prog n k ⟨.cond c x y⟩ ⟨Q⟩ f m := CW_cond false hc (fun e => by cases e) fun _ => h
theorem CT {c : Operand} {x y : Code} (h : @CW Tryz.prog n k ⟨x⟩ ⟨Q⟩ f m) (hc : AL.look f c = some (.bool true) := by rfl) : @CW Tryz.prog n k ⟨.cond c x y⟩ ⟨Q⟩ f m := CW_cond true hc (fun _ => h) fun e => by cases e
theorem CC {c : Operand} {x y : Code} (t : Bool) (ht : t = true → @CW Tryz.prog n k ⟨x⟩ ⟨Q⟩ f m) (hf : t = false → @CW Tryz.prog n k ⟨y⟩ ⟨Q⟩ f m) (hc : AL.look f c = some (.bool t) := by rfl) : @CW Tryz.prog n k ⟨.cond c x y⟩ ⟨Q⟩ f m := CW_cond t hc ht hf
theorem WMx {g : FuncId} {fn : Func} {c : Code} {xs : List Value} {R : Value → Mem → Prop} {m : Mem} (hf : Tryz.prog.funcs[g]? = some fn) {rs : Array ResultVar} (hr : fn.results = rs) {n : Nat} (hn : fn.ntmps = n)
    (h : Within m → (∀ x ∈ xs, Cl m.Has x) → ∀ k, @CW Tryz.prog n k ⟨c⟩ ⟨mEnd Tryz.prog rs.toList R⟩ (alOf 0 xs) m) (hb : fn.body = some c := by rfl) (hx : xs.length ≤ n := by simp) : Spec Tryz.prog g xs m R := Spec.walkM hf hb rs hr n hn hx h
theorem WM {g : FuncId} {fn : Func} {c : Code} {xs : List Value} {R : Value → Mem → Prop} {m : Mem} (hf : Tryz.prog.funcs[g]? = some fn) {rs : Array ResultVar} (hr : fn.results = rs) {n : Nat} (hn : fn.ntmps = n)
    (h : ∀ k, @CW Tryz.prog n k ⟨c⟩ ⟨mEnd Tryz.prog rs.toList R⟩ (alOf 0 xs) m) (hb : fn.body = some c := by rfl) (hx : xs.length ≤ n := by simp) : Spec Tryz.prog g xs m R := Spec.walkM hf hb rs hr n hn hx fun _ _ => h
theorem S0 {A : Prop} (h : B) (e : A = B := by simp only [zA, reduceIte, Nat.reduceLT, Int.reduceToNat, Int.reduceLE, Int.reduceEq, Int.reduceLT, Nat.reduceEqDiff, Nat.reduceAdd, Nat.reduceSub]; rfl) : A := e.mpr h
theorem R0 {id : Nat} {ops : Array Oper} (h : B) (e : @sOpsB Tryz.prog n ops.toList ⟨Q .normal⟩ ops.toList f m = B := by simp only [zA, reduceIte, Nat.reduceLT, Int.reduceToNat, Int.reduceLE, Int.reduceEq, Int.reduceLT, Nat.reduceEqDiff, Nat.reduceAdd, Nat.reduceSub]; rfl) : @CW Tryz.prog n k ⟨.region id ops false⟩ ⟨Q⟩ f m := CW_region (e.mpr h)
theorem T0 (h : B) (e : Q .ret f m = B := by simp only [zA, reduceIte, Nat.reduceLT, Int.reduceToNat, Int.reduceLE, Int.reduceEq, Int.reduceLT, Nat.reduceEqDiff, Nat.reduceAdd, Nat.reduceSub, mEnd, sAnswer, sAnswer.sRes]; rfl) : @CW Tryz.prog n k ⟨.ret⟩ ⟨Q⟩ f m := CW_ret (e.mpr h)
theorem K0 {g : FuncId} {xs : List Value} {v : Value} {G : Value → Mem → Prop} (s : Spec Tryz.prog g xs m fun u M => u = v ∧ M = m) (h : B) (he : entered Tryz.prog g = true := by kernel_rfl) (e : G v m = B := by simp only [zA, reduceIte, Nat.reduceLT, Int.reduceToNat, Int.reduceLE, Int.reduceEq, Int.reduceLT, Nat.reduceEqDiff, Nat.reduceAdd, Nat.reduceSub]; rfl) : entered Tryz.prog g = true ∧ ∃ R, Spec Tryz.prog g xs m R ∧ @Later ⟨∀ u M, R u M → G u M⟩ := ⟨he, _, s, fun u M ⟨hu, hM⟩ => by subst hu; subst hM; exact e.mpr h⟩
theorem S1 {A : Prop} {F0 : Prop} (g0 : F0) (h : B) (e : F0 → A = B := by intro g0; simp only [zA, g0, reduceIte, Nat.reduceLT, Int.reduceToNat, Int.reduceLE, Int.reduceEq, Int.reduceLT, Nat.reduceEqDiff, Nat.reduceAdd, Nat.reduceSub]; rfl) : A := (e g0).mpr h
theorem R1 {id : Nat} {ops : Array Oper} {F0 : Prop} (g0 : F0) (h : B) (e : F0 → @sOpsB Tryz.prog n ops.toList ⟨Q .normal⟩ ops.toList f m = B := by intro g0; simp only [zA, g0, reduceIte, Nat.reduceLT, Int.reduceToNat, Int.reduceLE, Int.reduceEq, Int.reduceLT, Nat.reduceEqDiff, Nat.reduceAdd, Nat.reduceSub]; rfl) : @CW Tryz.prog n k ⟨.region id ops false⟩ ⟨Q⟩ f m := CW_region ((e g0).mpr h)
theorem K1 {g : FuncId} {xs : List Value} {v : Value} {G : Value → Mem → Prop} {F0 : Prop} (g0 : F0) (s : Spec Tryz.prog g xs m fun u M => u = v ∧ M = m) (h : B) (he : entered Tryz.prog g = true := by kernel_rfl) (e : F0 → G v m = B := by intro g0; simp only [zA, g0, reduceIte, Nat.reduceLT, Int.reduceToNat, Int.reduceLE, Int.reduceEq, Int.reduceLT, Nat.reduceEqDiff, Nat.reduceAdd, Nat.reduceSub]; rfl) : entered Tryz.prog g = true ∧ ∃ R, Spec Tryz.prog g xs m R ∧ @Later ⟨∀ u M, R u M → G u M⟩ := ⟨he, _, s, fun u M ⟨hu, hM⟩ => by subst hu; subst hM; exact (e g0).mpr h⟩
theorem S2 {A : Prop} {F0 F1 : Prop} (g0 : F0) (g1 : F1) (h : B) (e : F0 → F1 → A = B := by intro g0 g1; simp only [zA, g0, g1, reduceIte, Nat.reduceLT, Int.reduceToNat, Int.reduceLE, Int.reduceEq, Int.reduceLT, Nat.reduceEqDiff, Nat.reduceAdd, Nat.reduceSub]; rfl) : A := (e g0 g1).mpr h
theorem R2 {id : Nat} {ops : Array Oper} {F0 F1 : Prop} (g0 : F0) (g1 : F1) (h : B) (e : F0 → F1 → @sOpsB Tryz.prog n ops.toList ⟨Q .normal⟩ ops.toList f m = B := by intro g0 g1; simp only [zA, g0, g1, reduceIte, Nat.reduceLT, Int.reduceToNat, Int.reduceLE, Int.reduceEq, Int.reduceLT, Nat.reduceEqDiff, Nat.reduceAdd, Nat.reduceSub]; rfl) : @CW Tryz.prog n k ⟨.region id ops false⟩ ⟨Q⟩ f m := CW_region ((e g0 g1).mpr h)
theorem S3 {A : Prop} {F0 F1 F2 : Prop} (g0 : F0) (g1 : F1) (g2 : F2) (h : B) (e : F0 → F1 → F2 → A = B := by intro g0 g1 g2; simp only [zA, g0, g1, g2, reduceIte, Nat.reduceLT, Int.reduceToNat, Int.reduceLE, Int.reduceEq, Int.reduceLT, Nat.reduceEqDiff, Nat.reduceAdd, Nat.reduceSub]; rfl) : A := (e g0 g1 g2).mpr h
theorem R3 {id : Nat} {ops : Array Oper} {F0 F1 F2 : Prop} (g0 : F0) (g1 : F1) (g2 : F2) (h : B) (e : F0 → F1 → F2 → @sOpsB Tryz.prog n ops.toList ⟨Q .normal⟩ ops.toList f m = B := by intro g0 g1 g2; simp only [zA, g0, g1, g2, reduceIte, Nat.reduceLT, Int.reduceToNat, Int.reduceLE, Int.reduceEq, Int.reduceLT, Nat.reduceEqDiff, Nat.reduceAdd, Nat.reduceSub]; rfl) : @CW Tryz.prog n k ⟨.region id ops false⟩ ⟨Q⟩ f m := CW_region ((e g0 g1 g2).mpr h)
theorem T3 {F0 F1 F2 : Prop} (g0 : F0) (g1 : F1) (g2 : F2) (h : B) (e : F0 → F1 → F2 → Q .ret f m = B := by intro g0 g1 g2; simp only [zA, g0, g1, g2, reduceIte, Nat.reduceLT, Int.reduceToNat, Int.reduceLE, Int.reduceEq, Int.reduceLT, Nat.reduceEqDiff, Nat.reduceAdd, Nat.reduceSub, mEnd, sAnswer, sAnswer.sRes]; rfl) : @CW Tryz.prog n k ⟨.ret⟩ ⟨Q⟩ f m := CW_ret ((e g0 g1 g2).mpr h)
theorem S4 {A : Prop} {F0 F1 F2 F3 : Prop} (g0 : F0) (g1 : F1) (g2 : F2) (g3 : F3) (h : B) (e : F0 → F1 → F2 → F3 → A = B := by intro g0 g1 g2 g3; simp only [zA, g0, g1, g2, g3, reduceIte, Nat.reduceLT, Int.reduceToNat, Int.reduceLE, Int.reduceEq, Int.reduceLT, Nat.reduceEqDiff, Nat.reduceAdd, Nat.reduceSub]; rfl) : A := (e g0 g1 g2 g3).mpr h
theorem S5 {A : Prop} {F0 F1 F2 F3 F4 : Prop} (g0 : F0) (g1 : F1) (g2 : F2) (g3 : F3) (g4 : F4) (h : B) (e : F0 → F1 → F2 → F3 → F4 → A = B := by intro g0 g1 g2 g3 g4; simp only [zA, g0, g1, g2, g3, g4, reduceIte, Nat.reduceLT, Int.reduceToNat, Int.reduceLE, Int.reduceEq, Int.reduceLT, Nat.reduceEqDiff, Nat.reduceAdd, Nat.reduceSub]; rfl) : A := (e g0 g1 g2 g3 g4).mpr h
theorem R5 {id : Nat} {ops : Array Oper} {F0 F1 F2 F3 F4 : Prop} (g0 : F0) (g1 : F1) (g2 : F2) (g3 : F3) (g4 : F4) (h : B) (e : F0 → F1 → F2 → F3 → F4 → @sOpsB Tryz.prog n ops.toList ⟨Q .normal⟩ ops.toList f m = B := by intro g0 g1 g2 g3 g4; simp only [zA, g0, g1, g2, g3, g4, reduceIte, Nat.reduceLT, Int.reduceToNat, Int.reduceLE, Int.reduceEq, Int.reduceLT, Nat.reduceEqDiff, Nat.reduceAdd, Nat.reduceSub]; rfl) : @CW Tryz.prog n k ⟨.region id ops false⟩ ⟨Q⟩ f m := CW_region ((e g0 g1 g2 g3 g4).mpr h)
theorem S6 {A : Prop} {F0 F1 F2 F3 F4 F5 : Prop} (g0 : F0) (g1 : F1) (g2 : F2) (g3 : F3) (g4 : F4) (g5 : F5) (h : B) (e : F0 → F1 → F2 → F3 → F4 → F5 → A = B := by intro g0 g1 g2 g3 g4 g5; simp only [zA, g0, g1, g2, g3, g4, g5, reduceIte, Nat.reduceLT, Int.reduceToNat, Int.reduceLE, Int.reduceEq, Int.reduceLT, Nat.reduceEqDiff, Nat.reduceAdd, Nat.reduceSub]; rfl) : A := (e g0 g1 g2 g3 g4 g5).mpr h
theorem JK {J : AL → Mem → Prop} (slots : List Nat) (h : B) (e : @withV _ (keepF f slots) ⟨fun f' => ∃ m', Thin m m' ∧ J f' m'⟩ = B := by simp only [zZ, reduceIte, Nat.reduceLT, Int.reduceToNat, Int.reduceLE, Int.reduceEq, Int.reduceLT, Nat.reduceEqDiff, Nat.reduceAdd, Nat.reduceSub, keepF]; rfl) : @JoinM f m ⟨J⟩ := ⟨slots, e.mpr h⟩
end
end Go.Proofs.YtkkleedpakcfgaaGreatDoor.Abs
namespace Go.Proofs.YtkkleedpakcfgaaGreatDoor
open Go.RowKit Abs
def dskC (q g : Nat) (d : Dsk) : List Value := [.slice (some ⟨g, 0, none⟩) d.old.length d.old.length, .map (some q), .int .i64 d.fuse, .bool d.dead]
structure DskAt (M : Mem) (p q g : Nat) (d : Dsk) : Prop where
  ok : d.Ok
  row : ∃ s, M.get p = some (.cells false s (dskC q g d))
  kv : M.get q = some (.kv false (ents d.last) d.clock)
  old : M.get g = some (.cells false 1 (d.old.map fun s => .string (str s)))
  pq : p ≠ q
  pg : p ≠ g
  qg : q ≠ g
theorem DskAt.same {M M' : Mem} {p q g : Nat} {d : Dsk} (h : DskAt M p q g d) (hs : ∀ b x, M.get b = some x → M'.get b = some x) : DskAt M' p q g d :=
  ⟨h.ok, h.row.imp fun _ hr => hs _ _ hr, hs _ _ h.kv, hs _ _ h.old, h.pq, h.pg, h.qg⟩
theorem DskAt.only {M M' : Mem} {p q g : Nat} {d : Dsk} (h : DskAt M p q g d) {l : List Nat} (hs : Only l M M') (hp : p ∉ l) (hq : q ∉ l) (hg : g ∉ l) : DskAt M' p q g d :=
  ⟨h.ok, h.row.imp fun _ hr => hs _ _ hp hr, hs _ _ hq h.kv, hs _ _ hg h.old, h.pq, h.pg, h.qg⟩
theorem DskAt.turn {M : Mem} {p q g : Nat} {d d' : Dsk} (h : DskAt M p q g d) (hok : d'.Ok) (ho : d'.old = d.old) (hl : d'.last = d.last) (hc : d'.clock = d.clock) (s : Nat) : DskAt (M.set p (some (.cells false s (dskC q g d')))) p q g d' := by
  obtain ⟨s0, hr⟩ := h.row
  exact ⟨hok, ⟨s, Mem.get_set_same hr _⟩, by rw [Mem.get_set_ne h.pq, hl, hc]; exact h.kv, by rw [Mem.get_set_ne h.pg, ho]; exact h.old, h.pq, h.pg, h.qg⟩
theorem DskAt.kvTurn {M : Mem} {p q g : Nat} {d : Dsk} (h : DskAt M p q g d) {L : LastL} {c : Nat} (hok : ({ d with last := L, clock := c } : Dsk).Ok) : DskAt (M.set q (some (.kv false (ents L) c))) p q g { d with last := L, clock := c } := by
  obtain ⟨s0, hr⟩ := h.row
  exact ⟨hok, ⟨s0, by rw [Mem.get_set_ne (Ne.symm h.pq)]; exact hr⟩, Mem.get_set_same h.kv _, by rw [Mem.get_set_ne h.qg]; exact h.old, h.pq, h.pg, h.qg⟩
def dp (p : Nat) : Value := .pointer (some ⟨p, 0, none⟩)
set_option maxRecDepth 100000 in
set_option maxHeartbeats 2000000 in
theorem may_spec (M : Mem) (p q g : Nat) (d : Dsk) (hd : DskAt M p q g d) (i : Int) :
    Abs.Spec Tryz.prog 101 [dp p, .int .i64 i] M fun u M' => u = .int .i64 (d.may i) ∧ M' = M := by
  refine Abs.Spec.walkM Tryz.func101 (by rfl) _ Tryz.results101 _ Tryz.ntmps101 (by simp [dp]) ?_
  intro hc hx k
  unfold dp
  obtain ⟨s, hr⟩ := hd.row
  unfold dskC at hr
  refine CW_seq (R0 ?_)
  refine CW_seq (CW_block (CW_seq (R1 @hr ?_)))
  refine CF (CW_seq (R1 @hr ?_))
  refine CW_cond d.dead (by rfl) (fun h => CW_seq (CW_region ?_)) (fun h => CW_seq (CW_region ?_))
  · refine S0 ?_
    refine T0 ?_
    exact ⟨M, Thin.refl _, by unfold Dsk.may; rw [if_pos h], rfl⟩
  have hn : (d.old.length : Int) ≤ 1024 := by have := hd.ok.n; omega
  have fin : ∀ b : Bool, b = decide (i < 0 ∨ (d.old.length : Int) ≤ i) → (if b = true then (10 : Int) else 0) = d.may i := fun b hb => by
    have e0 : d.may i = if i < 0 ∨ (d.old.length : Int) ≤ i then 10 else 0 := by unfold Dsk.may; rw [h]; rfl
    rw [e0, hb]
    by_cases e : i < 0 ∨ (d.old.length : Int) ≤ i <;> simp [e]
  cases q1 : decide (i < 0)
  · refine S2 @hr @q1 ?_
    refine CC (decide (i ≥ (d.old.length : Int))) (fun h2 => CW_seq (CW_region ?_)) (fun h2 => CW_skip ?_)
    · refine S0 ?_
      refine T0 ?_
      refine ⟨M, Thin.refl _, ?_, rfl⟩
      rw [← fin true (by have := of_decide_eq_true h2; simp; omega)]; rfl
    · refine S0 ?_
      refine CW_seq (R0 ?_)
      refine T0 ?_
      refine ⟨M, Thin.refl _, ?_, rfl⟩
      rw [← fin false (by have := of_decide_eq_false h2; have := of_decide_eq_false q1; simp; omega)]; rfl
  · refine S2 @hr @q1 ?_
    refine CW_cond true (by rfl) (fun h2 => CW_seq (CW_region ?_)) (fun h2 => by cases h2)
    refine S0 ?_
    refine T0 ?_
    refine ⟨M, Thin.refl _, ?_, rfl⟩
    rw [← fin true (by have := of_decide_eq_true q1; simp; omega)]; rfl
set_option maxRecDepth 100000 in
set_option maxHeartbeats 2000000 in
theorem dlen_spec (M : Mem) (p q g : Nat) (d : Dsk) (hd : DskAt M p q g d) :
    Abs.Spec Tryz.prog 18 [dp p] M fun u M' => u = .int .i64 (d.old.length : Nat) ∧ M' = M := by
  refine Abs.Spec.walkM Tryz.func18 (by rfl) _ Tryz.results18 _ Tryz.ntmps18 (by simp [dp]) ?_
  intro hc hx k
  unfold dp
  obtain ⟨s, hr⟩ := hd.row
  unfold dskC at hr
  refine CW_seq (R0 ?_)
  refine CW_seq (CW_seq (R0 ?_))
  refine CF (CW_skip ?_)
  refine S0 ?_
  refine CW_seq (R1 @hr ?_)
  refine T0 ?_
  exact ⟨M, Thin.refl _, rfl⟩
set_option maxRecDepth 100000 in
set_option maxHeartbeats 2000000 in
theorem read_spec (M : Mem) (p q g : Nat) (d : Dsk) (hd : DskAt M p q g d) (i : Int) :
    Abs.Spec Tryz.prog 54 [dp p, .int .i64 i] M fun u M' => u = .tuple #[.string (str (d.read i).1), .int .i64 (d.read i).2] ∧ M' = M := by
  refine Abs.Spec.walkM Tryz.func54 (by rfl) _ Tryz.results54 _ Tryz.ntmps54 (by simp [dp]) ?_
  intro hc hx k
  obtain ⟨s, hr⟩ := hd.row
  unfold dskC at hr
  refine CW_seq (R0 ?_)
  refine CW_seq (CW_seq (R0 ?_))
  refine K0 (may_spec M p q g d hd i) ?_
  refine CW_seq (R0 ?_)
  refine CC (d.may i != 0) (fun h => CW_seq (CW_region ?_)) (fun h => CW_skip ?_)
  · refine S0 ?_
    refine T0 ?_
    have h : d.may i ≠ 0 := by simpa using h
    unfold Dsk.read
    rw [if_neg h]
    exact ⟨_, Thin.refl _, rfl, rfl⟩
  have h : d.may i = 0 := by simpa using h
  refine S0 ?_
  obtain ⟨n, rfl, hn⟩ : ∃ n : Nat, i = (n : Int) ∧ n < d.old.length := by
    unfold Dsk.may at h
    split at h
    · cases h
    · split at h
      · cases h
      · exact ⟨i.toNat, by omega, by omega⟩
  have hrd : d.read (n : Int) = (d.sector n, 0) := by unfold Dsk.read; rw [if_pos h]; rfl
  rw [hrd]
  have hdp : dp p = .pointer (some ⟨p, 0, none⟩) := rfl
  refine CW_seq (CW_seq (CW_region ?_))
  simp only [zZ, reduceIte, Nat.reduceLT, Int.reduceToNat, Int.reduceLE, Int.reduceEq, Int.reduceLT, Nat.reduceEqDiff, Nat.reduceAdd, zDk, pd_eql, pd_neq, pd_eql0, pd_neq0, hr, hdp, look_dsk hd.kv]
  refine CW_seq (R0 ?_)
  cases hl : lastOf d.last n with
  | some s' =>
    simp only [Option.isSome_some, Option.getD_some]
    refine CT (CW_seq (R0 ?_))
    refine T0 ?_
    unfold Dsk.sector
    rw [hl]
    exact ⟨_, Thin.refl _, rfl, rfl⟩
  | none =>
    simp only [Option.isSome_none, Option.getD_none]
    refine CF (CW_skip ?_)
    refine S0 ?_
    refine CW_seq (CW_region ?_)
    have g0 : (0 : Int) ≤ (n : Int) := by omega
    have g1 : (n : Int) < (d.old.length : Int) := by omega
    have hc : cellIn n (some (.cells false 1 (d.old.map fun s => .string (str s)))) = some (.string (str ((d.old[n]?).getD []))) := by
      simp only [cellIn, List.getElem?_map, List.getElem?_eq_getElem hn, Option.map_some, Option.getD_some]
    refine S6 @hr @g0 @g1 @and_self @hd.old @hc ?_
    refine T0 ?_
    unfold Dsk.sector
    rw [hl]
    exact ⟨_, Thin.refl _, rfl, rfl⟩
theorem rep_zero : ∀ k : Nat, Lib.repeatL [(0 : UInt8)] k = List.replicate k 0
  | 0 => rfl
  | k + 1 => by rw [Lib.repeatL, rep_zero k]; rfl
end Go.Proofs.YtkkleedpakcfgaaGreatDoor
namespace Go.Proofs.YtkkleedpakcfgaaGreatDoor
open Go.RowKit Abs
theorem next_dsk {m : Mem} {r q since last c : Nat} {seen : List Nat} {ro : Bool} {L : LastL} (hr : m.get r = some (.it false q since seen last)) (hq : m.get q = some (.kv ro (ents L) c)) (hc : ∀ x ∈ L, x.2.2 < since) (hl : since ≤ last) :
    aNext m (.pointer (some ⟨r, 0, none⟩)) = some fun v m' => (v = .tuple #[.bool false] ∧ m' = m ∧ aLeft (ents L) seen = []) ∨ ∃ e ∈ aLeft (ents L) seen, v = .tuple #[.bool true, e.key, e.val] ∧ m' = m.set r (some (.it false q since (seen ++ [e.born]) c)) := by
  unfold aNext
  simp only [hr, hq]
  rw [if_pos ⟨by
    rw [List.all_eq_true]
    intro e he
    unfold ents at he
    rw [List.mem_map] at he
    obtain ⟨x, hx, rfl⟩ := he
    simpa using hc x hx, hl⟩]
theorem entry_dsk {get : Nat → Option Blk} {r q since c : Nat} {seen : List Nat} {ro ro' : Bool} {L : LastL} {x : Nat × List UInt8 × Nat} (hr : get r = some (.it ro' q since (seen ++ [x.2.2]) c)) (hq : get q = some (.kv ro (ents L) c)) (hb : (L.map (·.2.2)).Nodup) (hx : x ∈ L) :
    aEntry get (.pointer (some ⟨r, 0, none⟩)) = some (.tuple #[.int .i64 (x.1 : Nat), .string (str x.2.1)]) := by
  unfold aEntry
  simp only [hr, hq, if_true, List.getLast?_concat, ents_find hb hx]
theorem syncV_size {E : Dsk} (h : E.Ok) (seen : List Nat) {s : List UInt8} (hs : s ∈ syncV E.old E.last seen) : s.length = 256 := by
  unfold syncV at hs
  rw [List.mem_mapIdx] at hs
  obtain ⟨i, hi, rfl⟩ := hs
  split
  · rename_i x hx
    exact (h.within x (List.mem_of_find?_eq_some hx)).2
  · exact h.size _ (List.getElem_mem hi)
theorem nodup_born {L : LastL} (h : (L.map (·.2.2)).Nodup) {x y : Nat × List UInt8 × Nat} (hx : x ∈ L) (hy : y ∈ L) (e : x.2.2 = y.2.2) : x = y := by
  induction L with
  | nil => cases hx
  | cons a L ih =>
    rw [List.map_cons, List.nodup_cons] at h
    rcases List.mem_cons.1 hx with rfl | hx' <;> rcases List.mem_cons.1 hy with rfl | hy'
    · rfl
    · exact absurd (List.mem_map.2 ⟨y, hy', e.symm⟩) h.1
    · exact absurd (List.mem_map.2 ⟨x, hx', e⟩) h.1
    · exact ih h.2 hx' hy'
end Go.Proofs.YtkkleedpakcfgaaGreatDoor
namespace Go.Proofs.YtkkleedpakcfgaaGreatDoor
open Go.RowKit Abs
theorem Mem.set_set (m : Mem) (b : Nat) (x y : Option Blk) : (m.set b x).set b y = m.set b y := by simp [Mem.set]
theorem Mem.set_comm {m : Mem} {a b : Nat} {x y : Option Blk} (h : a ≠ b) : (m.set a x).set b y = (m.set b y).set a x := by
  simp only [Mem.set]
  rw [List.set_comm _ _ h]
theorem Mem.set_self {m : Mem} {b : Nat} {x : Blk} (h : m.get b = some x) : m.set b (some x) = m := by
  obtain ⟨l⟩ := m
  simp only [Mem.set]
  congr 1
  apply List.ext_getElem?
  intro i
  by_cases e : b = i
  · subst e
    have hl : b < l.length := Mem.get_lt h
    rw [List.getElem?_set_self hl]
    unfold Mem.get at h
    simp only at h
    cases hb : l[b]? with
    | none => rw [hb] at h; cases h
    | some o =>
      rw [hb] at h
      cases o with
      | none => cases h
      | some z => cases z with
        | none => cases h
        | some w => cases h; rfl
  · rw [List.getElem?_set_ne e]
theorem Thin.drop (m : Mem) (r : Nat) : Thin m (m.set r none) where
  has := fun b ⟨o, hb⟩ => by
    by_cases e : r = b
    · subst e
      exact ⟨none, by simp only [Mem.set]; rw [List.getElem?_set_self (List.getElem?_eq_some_iff.1 hb).1]⟩
    · exact ⟨o, by simp only [Mem.set]; rw [List.getElem?_set_ne e]; exact hb⟩
  get := fun b ro s cs hb => by
    by_cases e : r = b
    · subst e
      have hl := Mem.get_lt hb
      rw [Mem.size_set] at hl
      unfold Mem.get at hb
      simp only [Mem.set] at hb
      rw [List.getElem?_set_self hl] at hb
      cases hb
    · rw [Mem.get_set_ne e] at hb
      exact ⟨ro, hb, fun h => h⟩
  oth := fun b x hb => by
    by_cases e : r = b
    · subst e
      have hl := Mem.get_lt hb
      rw [Mem.size_set] at hl
      unfold Mem.get at hb
      simp only [Mem.set] at hb
      rw [List.getElem?_set_self hl] at hb
      cases hb
    · rw [Mem.get_set_ne e] at hb
      exact .inr hb
def syncMem (M : Mem) (p q g s : Nat) (d : Dsk) : Mem :=
  if d.may 0 ≠ 0 then M else if d.fuse = 0 then M.set p (some (.cells false s (dskC q g d.burnt))) else
  ((((M.set p (some (.cells false s (dskC q g d.burnt)))).push (.it false q d.burnt.clock [] d.burnt.clock)).set g (some (.cells false 1 ((d.burnt.old.mapIdx fun i o => (lastOf d.burnt.last i).getD o).map fun s => .string (str s))))).set q (some (.kv false [] d.burnt.clock))).set M.size none
set_option maxRecDepth 100000 in
set_option maxHeartbeats 2000000 in
theorem burn_exact (M : Mem) (p q g s : Nat) (d : Dsk) (hd : DskAt M p q g d) (hr0 : M.get p = some (.cells false s (dskC q g d))) :
    Abs.Spec Tryz.prog 113 [dp p] M fun u M' => u = .bool (!decide (d.fuse = 0)) ∧ M' = M.set p (some (.cells false s (dskC q g d.burnt))) := by
  refine Abs.Spec.walkM Tryz.func113 (by rfl) _ Tryz.results113 _ Tryz.ntmps113 (by simp [dp]) ?_
  intro hc hx k
  unfold dp
  have hr := hr0
  unfold dskC at hr
  have hfu := hd.ok.fuse
  refine CW_seq (R0 ?_)
  refine CW_seq (CW_seq (R1 @hr ?_))
  refine CC (d.fuse == 0) (fun h => CW_seq (CW_region ?_)) (fun h => CW_skip ?_)
  · have h0 : d.fuse = 0 := by simpa using h
    have e : d.burnt = { d with dead := true } := by unfold Dsk.burnt; rw [if_pos h0]
    refine S1 @hr ?_
    refine CW_seq (R0 ?_)
    refine T0 ?_
    exact ⟨_, Thin.refl _, by simp [h0], by rw [e]; rfl⟩
  · have h0 : d.fuse ≠ 0 := by simpa using h
    have e : d.burnt = { d with fuse := max (d.fuse - 1) (-1) } := by unfold Dsk.burnt; rw [if_neg h0]
    refine S0 ?_
    refine CW_seq (CW_region ?_)
    have w1 : IntKind.i64.wrap (d.fuse - 1) = d.fuse - 1 := wri (by omega) (by omega)
    refine S3 @hr @w1 @vMax_int ?_
    refine CW_seq (R0 ?_)
    refine T0 ?_
    exact ⟨_, Thin.refl _, by simp [h0], by rw [e]; rfl⟩
set_option maxRecDepth 100000 in
set_option maxHeartbeats 2000000 in
theorem sync_exact (M : Mem) (p q g s₀ : Nat) (d : Dsk) (hd : DskAt M p q g d) (hr₀ : M.get p = some (.cells false s₀ (dskC q g d))) :
    Abs.Spec Tryz.prog 62 [dp p] M fun u M' => u = .int .i64 d.sync.2 ∧ M' = syncMem M p q g s₀ d := by
  refine Abs.Spec.walkM Tryz.func62 (by rfl) _ Tryz.results62 _ Tryz.ntmps62 (by simp [dp]) ?_
  intro hc hx k
  obtain ⟨X, hX⟩ : ∃ X, X = syncMem M p q g s₀ d := ⟨_, rfl⟩
  rw [← hX]
  unfold syncMem at hX
  obtain ⟨D, hD⟩ : ∃ D, D = d.sync := ⟨_, rfl⟩
  rw [← hD]
  unfold Dsk.sync at hD
  refine CW_seq (R0 ?_)
  refine CW_seq (CW_seq (R0 ?_))
  refine K0 (may_spec M p q g d hd 0) ?_
  refine CW_seq (R0 ?_)
  refine CC (d.may 0 != 0) (fun h => CW_seq (CW_region ?_)) (fun h => CW_skip ?_)
  · refine S0 ?_
    refine T0 ?_
    have h : d.may 0 ≠ 0 := by simpa using h
    rw [if_pos h] at hD
    subst hD
    exact ⟨_, Thin.refl _, rfl, by rw [hX, if_pos h]⟩
  have h : d.may 0 = 0 := by simpa using h
  rw [if_neg (by simp [h])] at hX
  rw [if_neg (by simp [h])] at hD
  refine S0 ?_
  refine CW_seq (CW_seq (R0 ?_))
  refine ⟨by kernel_rfl, _, burn_exact M p q g s₀ d hd hr₀, ?_⟩
  rintro _ M1 ⟨rfl, eM1⟩
  have hd1 : DskAt M1 p q g d.burnt := by rw [eM1]; exact hd.turn hd.ok.burnt (burnt_old d) (burnt_last d) (burnt_clock d) s₀
  have hs1 : M1.size = M.size := by rw [eM1, Mem.size_set]
  refine S0 ?_
  refine CC (!!decide (d.fuse = 0)) (fun h => CW_seq (CW_region ?_)) (fun h => CW_skip ?_)
  · refine S0 ?_
    refine T0 ?_
    rw [Bool.not_not] at h
    have h := of_decide_eq_true h
    rw [if_pos h] at hD
    subst hD
    exact ⟨_, Thin.refl _, rfl, by rw [hX, if_pos h, eM1]⟩
  rw [Bool.not_not] at h
  have h3 := of_decide_eq_false h
  rw [if_neg h3] at hD hX
  refine S0 ?_
  have hdp : dp p = .pointer (some ⟨p, 0, none⟩) := rfl
  obtain ⟨E, hE⟩ : ∃ E, E = d.burnt := ⟨_, rfl⟩
  rw [← hE] at hd1 hD eM1 hX
  clear hE
  obtain ⟨s, hr⟩ := hd1.row
  have hr' := hr
  unfold dskC at hr
  refine CW_seq (CW_seq (CW_region ?_))
  simp only [zZ, reduceIte, Nat.reduceLT, Int.reduceToNat, Int.reduceLE, Int.reduceEq, Int.reduceLT, Nat.reduceEqDiff, Nat.reduceAdd, zDk, pd_eql, pd_neq, pd_eql0, pd_neq0, hr, hdp, range_dsk hd1.kv]
  obtain ⟨M2, hM2⟩ : ∃ M2, M2 = M1.push (.it false q E.clock [] E.clock) := ⟨_, rfl⟩
  obtain ⟨r, hr0⟩ : ∃ r, r = M1.size := ⟨_, rfl⟩
  rw [← hM2, ← hr0]
  have hrp : r ≠ p := by have := get_live hr; omega
  have hrq : r ≠ q := by have := get_live hd1.kv; omega
  have hrg : r ≠ g := by have := get_live hd1.old; omega
  have hit : M2.get r = some (.it false q E.clock [] E.clock) := by rw [hM2, hr0, Mem.get_push_new]
  have hold2 : ∀ b x, M1.get b = some x → M2.get b = some x := fun b x hb => by rw [hM2, Mem.get_push_old (get_live hb)]; exact hb
  have hs2 : M2.size = M1.size + 1 := by rw [hM2, Mem.size_push]
  refine CW_block (MW_loop (fun j f M' => ∃ seen : List Nat, j = (aLeft (ents E.last) seen).length ∧ f = [(0, .pointer (some ⟨p, 0, none⟩)), (18, .pointer (some ⟨r, 0, none⟩))] ∧ M'.get r = some (.it false q E.clock seen E.clock) ∧
    DskAt M' p q g { E with old := syncV E.old E.last seen } ∧ M' = (M2.set g (some (.cells false 1 ((syncV E.old E.last seen).map fun s => .string (str s))))).set r (some (.it false q E.clock seen E.clock))) (aLeft (ents E.last) []).length ?_ ?_)
  · refine JK [0, 18] ?_
    refine ⟨M2, Thin.refl _, [], rfl, hit, ?_, ?_⟩
    · rw [syncV_nil]
      exact hd1.same hold2
    · rw [syncV_nil, Mem.set_self (hold2 _ _ hd1.old), Mem.set_self hit]
  · rintro j f M' ⟨seen, rfl, rfl, hit', hd', eM'⟩
    have hnx := next_dsk hit' hd'.kv (by exact hd1.ok.clock) (Nat.le_refl _)
    refine CW_seq (R1 @hnx ?_)
    rintro v m' (⟨rfl, e9, hdone⟩ | ⟨e, he, rfl, rfl⟩)
    · replace e9 := e9.symm; subst e9
      refine S0 ?_
      refine CW_seq (CF (CW_exit ?_))
      refine S0 ?_
      obtain ⟨s', hr2⟩ := hd'.row
      unfold dskC at hr2
      refine CW_seq (CW_region ?_)
      simp only [zZ, reduceIte, Nat.reduceLT, Int.reduceToNat, Int.reduceLE, Int.reduceEq, Int.reduceLT, Nat.reduceEqDiff, Nat.reduceAdd, zDk, pd_eql, pd_neq, pd_eql0, pd_neq0, hr2, clear_dsk hd'.kv]
      refine CW_seq (R0 ?_)
      refine T0 ?_
      subst hD
      have hok := hd1.ok.synced
      have := hd'.kvTurn (L := []) (c := E.clock) (by rw [syncV_all hdone]; exact hok)
      rw [syncV_all hdone] at this
      refine ⟨_, Thin.drop _ r, rfl, ?_⟩
      rw [eM', syncV_all hdone, hX, hM2, eM1]
      rw [Mem.set_comm hrq, Mem.set_set]
      rw [hr0, hs1]
      rfl
    · have hless := aLeft_less he
      obtain ⟨x, hx, rfl, hns⟩ := aLeft_mem he
      obtain ⟨hx1, hx2⟩ := hd1.ok.within x hx
      simp only at hless ⊢
      obtain ⟨M3, hM3⟩ : ∃ M3, M3 = M'.set r (some (.it false q E.clock (seen ++ [x.2.2]) E.clock)) := ⟨_, rfl⟩
      rw [← hM3]
      have hit3 : M3.get r = some (.it false q E.clock (seen ++ [x.2.2]) E.clock) := by rw [hM3]; exact Mem.get_set_same hit' _
      have hd3 : DskAt M3 p q g { E with old := syncV E.old E.last seen } := by rw [hM3]; exact hd'.only (Only.set (l := [r]) (by simp) _) (by simpa using Ne.symm hrp) (by simpa using Ne.symm hrq) (by simpa using Ne.symm hrg)
      obtain ⟨s3, hr3⟩ := hd3.row
      unfold dskC at hr3
      simp only at hr3
      have hent := entry_dsk (get := M3.get) hit3 hd3.kv hd1.ok.born hx
      refine S0 ?_
      refine CW_seq (CW_cond true (by rfl) (fun _ => CW_skip ?_) (fun h => by cases h))
      refine S0 ?_
      refine CW_block (CW_seq (R1 @hent ?_))
      have g0 : (0 : Int) ≤ (x.1 : Int) := by omega
      have g1 : (x.1 : Int) < ((syncV E.old E.last seen).length : Int) := by rw [syncV_len]; omega
      have hput : putIn 1 M3 g x.1 [.string (str x.2.1)] (M3.get g) = some (M3.set g (some (.cells false 1 ((syncV E.old E.last (seen ++ [x.2.2])).map fun s => .string (str s))))) := by
        rw [hd3.old]
        simp only [putIn]
        rw [if_pos ⟨rfl, by simp only [List.length_cons, List.length_nil, List.length_map, syncV_len]; omega, rfl⟩]
        rcases syncV_step (old := E.old) (seen := seen) hd1.ok.keys hx with h1 | ⟨y, hy, hne, hyb⟩
        · rw [← h1]
          simp only [setL, List.map_set]
        · exact absurd (nodup_born hd1.ok.born hy hx hyb) hne
      refine R5 @hr3 @g0 @g1 @and_self @hput ?_
      refine JK [0, 18] ?_
      refine ⟨_, Thin.refl _, _, ⟨seen ++ [x.2.2], rfl, by rw [Mem.get_set_ne (Ne.symm hrg)]; exact hit3, ?_, ?_⟩, hless⟩
      · exact ⟨⟨by simp only [syncV_len]; exact hd1.ok.n, by simp only [syncV_len]; exact hd1.ok.pos, fun s hs => syncV_size hd1.ok _ hs, hd1.ok.keys, hd1.ok.born, hd1.ok.clock, fun x hx => by simp only [syncV_len]; exact hd1.ok.within x hx, hd1.ok.fuse, trivial⟩, ⟨s3, by rw [Mem.get_set_ne (Ne.symm hd1.pg), hr3]; simp only [dskC, syncV_len]⟩, by rw [Mem.get_set_ne (Ne.symm hd1.qg)]; exact hd3.kv, Mem.get_set_same hd3.old _, hd1.pq, hd1.pg, hd1.qg⟩
      · rw [hM3, eM', Mem.set_set, Mem.set_comm hrg, Mem.set_set]
end Go.Proofs.YtkkleedpakcfgaaGreatDoor
namespace Go.Proofs.YtkkleedpakcfgaaGreatDoor
open Go.RowKit Abs
def strL : List Value → Option (List (List UInt8))
  | [] => some []
  | .string s :: r => match strL r with
    | some l => some (s.data.toList :: l)
    | none => none
  | _ => none
theorem strL_spec : ∀ {l : List Value} {xs : List (List UInt8)}, strL l = some xs → l = xs.map fun s => .string (str s)
  | [], xs, h => by cases h; rfl
  | x :: r, xs, h => by
    unfold strL at h
    split at h <;> first | (cases h; done) | skip
    · rename_i e; cases e
    · rename_i s r' e
      cases e
      split at h <;> first | (cases h; done) | skip
      rename_i l hl
      cases h
      rw [strL_spec hl]
      rfl
def entL : List MapEntry → Option LastL
  | [] => some []
  | ⟨.int .i64 (.ofNat k), .string s, b⟩ :: r => match entL r with
    | some l => some ((k, s.data.toList, b) :: l)
    | none => none
  | _ => none
theorem entL_spec : ∀ {l : List MapEntry} {xs : LastL}, entL l = some xs → l = ents xs
  | [], xs, h => by cases h; rfl
  | x :: r, xs, h => by
    unfold entL at h
    split at h <;> first | (cases h; done) | skip
    · rename_i e; cases e
    · rename_i k s b r' e
      cases e
      split at h <;> first | (cases h; done) | skip
      rename_i l hl
      cases h
      rw [entL_spec hl]
      rfl
def nodupB : List Nat → Bool
  | [] => true
  | a :: r => bif r.all (fun b => !(Nat.beq a b)) then nodupB r else false
theorem nodupB_spec : ∀ {l : List Nat}, nodupB l = true → l.Nodup
  | [], _ => List.nodup_nil
  | a :: r, h => by
    unfold nodupB at h
    cases hb : r.all (fun b => !(Nat.beq a b)) with
    | false => rw [hb] at h; cases h
    | true =>
      rw [hb] at h
      refine List.nodup_cons.2 ⟨fun hm => ?_, nodupB_spec h⟩
      have := List.all_eq_true.1 hb a hm
      simp at this
def okB (d : Dsk) : Bool := Nat.ble d.old.length 1024 && (Nat.blt 0 d.old.length && (d.old.all (fun s => Nat.beq s.length 256) && (nodupB (d.last.map (·.1)) && (nodupB (d.last.map (·.2.2)) &&
  (d.last.all (fun x => Nat.blt x.2.2 d.clock) && (d.last.all (fun x => Nat.blt x.1 d.old.length && Nat.beq x.2.1.length 256) && (decide (-1 ≤ d.fuse) && decide (d.fuse ≤ 9223372036854775807))))))))
theorem okB_spec {d : Dsk} (h : okB d = true) : d.Ok := by
  unfold okB at h
  simp only [Bool.and_eq_true] at h
  obtain ⟨h1, h2, h3, h4, h5, h6, h7, h8, h9⟩ := h
  exact ⟨Nat.le_of_ble_eq_true h1, Nat.le_of_ble_eq_true h2, fun s hs => Nat.eq_of_beq_eq_true (List.all_eq_true.1 h3 s hs), nodupB_spec h4, nodupB_spec h5, fun x hx => Nat.le_of_ble_eq_true (List.all_eq_true.1 h6 x hx),
    fun x hx => by
      have := List.all_eq_true.1 h7 x hx
      simp only [Bool.and_eq_true] at this
      exact ⟨Nat.le_of_ble_eq_true this.1, Nat.eq_of_beq_eq_true this.2⟩, ⟨of_decide_eq_true h8, of_decide_eq_true h9⟩, trivial⟩
theorem lim_own {f : FMem} {b : Nat} {z : Blk} (hb : f.get b = some z) (hz : z.own = true) : ¬ b < f.lim := by
  obtain ⟨y, _, h2⟩ := FMem.get_of hb
  intro hl
  rw [if_pos hl] at h2
  rw [frzB_own h2] at hz
  cases hz
theorem Abs.MR.putLim {f : FMem} {m : Mem} (h : MR f m) {b : Nat} (hlim : ¬ b < f.lim) (hb : b < m.size) (x : Option Blk) : MR (f.put b x) (m.set b x) := by
  refine ⟨by simp [FMem.put, h.1], h.2.1, fun c y hc => ?_⟩
  obtain ⟨u, h1, h2⟩ := FMem.get_of hc
  replace h2 : (if c < f.lim then frzB u else some u) = some y := h2
  simp only [FMem.put] at h1
  rw [Tr.get_set] at h1
  by_cases e : c = b
  · subst e
    rw [if_pos rfl] at h1
    subst h1
    rw [if_neg hlim] at h2
    rw [← h2]
    unfold Mem.get Mem.set
    simp only
    rw [List.getElem?_set_self hb]
  · rw [if_neg e] at h1
    rw [Mem.get_set_ne (Ne.symm e)]
    exact h.2.2 c y (by rw [FMem.get_to h1]; exact h2)
noncomputable def forceCs {β : Type} (l : List Value) (k : List Value → β) : β := forceL (fun v k => forceV 1 v k) l k
theorem forceCs_eq {β : Type} (l : List Value) (k : List Value → β) : forceCs l k = k l := forceL_eq (fun v k => forceV_eq 1 v k) l k
noncomputable def syncF (m : FMem) (p q g s : Nat) (d : Dsk) : Option (Value × FMem) :=
  bif decide (d.may 0 = 0) then (bif decide (d.fuse = 0) then forceCs (dskC q g d.burnt) fun cs => some (.int .i64 7, m.put p (some (.cells false s cs)))
    else forceCs (dskC q g d.burnt) fun cs => forceCs ((d.burnt.old.mapIdx fun i o => (lastOf d.burnt.last i).getD o).map fun s => .string (str s)) fun os =>
      some (.int .i64 0, ((((m.put p (some (.cells false s cs))).push (.it false q d.burnt.clock [] d.burnt.clock)).put g (some (.cells false 1 os))).put q (some (.kv false [] d.burnt.clock))).put m.n none))
  else forceV 1 (.int .i64 (d.may 0)) fun v => some (v, m)
noncomputable def syncD (m : FMem) (p q g s n n' : Nat) (fuse : Int) (dead : Bool) (clock : Nat) (es : List MapEntry) (cs : List Value) : Option (Value × FMem) := match strL cs with
  | some old => match entL es with
    | some last => bif okB ⟨old, last, clock, fuse, dead⟩ && (Nat.beq n old.length && (Nat.beq n' old.length && (!(Nat.beq p q) && (!(Nat.beq p g) && !(Nat.beq q g))))) then syncF m p q g s ⟨old, last, clock, fuse, dead⟩ else none
    | none => none
  | none => none
noncomputable def syncM (m : FMem) (p : Nat) : Option (Value × FMem) := match m.get p with
  | some (.cells false s [.slice (some ⟨g, 0, none⟩) n n', .map (some q), .int .i64 fuse, .bool dead]) => match m.get q with
    | some (.kv false es clock) => match m.get g with
      | some (.cells false 1 cs) => syncD m p q g s n n' fuse dead clock es cs
      | _ => none
    | _ => none
  | _ => none
noncomputable def syncT (T : Caller) : Caller := fun j ys m => bif Nat.beq j 62 then (match ys with
  | [.pointer (some ⟨p, 0, none⟩)] => syncM m p
  | _ => none) else T j ys m
theorem syncT_good {T : Caller} (hT : Abs.Good Tryz.prog T) : Abs.Good Tryz.prog (syncT T) := fun j ys f v f' h m hm => by
  unfold syncT at h
  cases hk : Nat.beq j 62 with
  | false => rw [hk] at h; exact hT j ys f v f' h m hm
  | true =>
    rw [hk] at h
    have ek := Nat.eq_of_beq_eq_true hk
    subst ek
    simp only [cond_true] at h
    split at h <;> first | (cases h; done) | skip
    rename_i p
    unfold syncM at h
    split at h <;> first | (cases h; done) | skip
    rename_i s g n n' q fuse dead hp
    split at h <;> first | (cases h; done) | skip
    rename_i es clock hq
    split at h <;> first | (cases h; done) | skip
    rename_i cs hg
    unfold syncD at h
    split at h <;> first | (cases h; done) | skip
    rename_i old hold
    split at h <;> first | (cases h; done) | skip
    rename_i last hlast
    obtain ⟨d, hd⟩ : ∃ d : Dsk, d = ⟨old, last, clock, fuse, dead⟩ := ⟨_, rfl⟩
    rw [← hd] at h
    cases hb : okB d && (Nat.beq n old.length && (Nat.beq n' old.length && (!(Nat.beq p q) && (!(Nat.beq p g) && !(Nat.beq q g))))) with
    | false => rw [hb] at h; cases h
    | true =>
      rw [hb] at h
      simp only [cond_true] at h
      simp only [Bool.and_eq_true, Bool.not_eq_true'] at hb
      obtain ⟨b1, b2, b3, b4, b5, b6⟩ := hb
      have b2 := Nat.eq_of_beq_eq_true b2
      have b3 := Nat.eq_of_beq_eq_true b3
      subst b2
      subst b3
      have c4 : p ≠ q := Nat.ne_of_beq_eq_false b4
      have c5 : p ≠ g := Nat.ne_of_beq_eq_false b5
      have c6 : q ≠ g := Nat.ne_of_beq_eq_false b6
      have hrow : m.get p = some (.cells false s (dskC q g d)) := by rw [hm.2.2 _ _ hp, hd]; rfl
      have hkv : m.get q = some (.kv false (ents d.last) d.clock) := by rw [hm.2.2 _ _ hq, hd, entL_spec hlast]
      have hgo : m.get g = some (.cells false 1 (d.old.map fun s => .string (str s))) := by rw [hm.2.2 _ _ hg, hd, strL_spec hold]
      have hD : DskAt m p q g d := ⟨okB_spec b1, ⟨s, hrow⟩, hkv, hgo, c4, c5, c6⟩
      have hs := sync_exact m p q g s d hD hrow
      refine ⟨syncMem m p q g s d, ?_⟩
      have ev : ∀ {u : Value}, u = .int .i64 d.sync.2 → Abs.Spec Tryz.prog 62 [.pointer (some ⟨p, 0, none⟩)] m fun w M => w = u ∧ M = syncMem m p q g s d := fun hu => by rw [hu]; exact hs
      unfold syncF at h
      by_cases hmay : d.may 0 = 0
      · rw [decide_eq_true hmay, cond_true] at h
        by_cases hf : d.fuse = 0
        · rw [decide_eq_true hf, cond_true, forceCs_eq] at h
          cases h
          have eM : syncMem m p q g s d = m.set p (some (.cells false s (dskC q g d.burnt))) := by unfold syncMem; rw [if_neg (by simp [hmay]), if_pos hf]
          refine ⟨by rw [eM]; exact hm.put hp _, ev (by unfold Dsk.sync; rw [if_neg (by simp [hmay]), if_pos hf]), by rw [eM]; exact Ext.set hrow _ rfl⟩
        · rw [decide_eq_false hf, cond_false, forceCs_eq, forceCs_eq] at h
          cases h
          have eM : syncMem m p q g s d = ((((m.set p (some (.cells false s (dskC q g d.burnt)))).push (.it false q d.burnt.clock [] d.burnt.clock)).set g (some (.cells false 1 ((d.burnt.old.mapIdx fun i o => (lastOf d.burnt.last i).getD o).map fun s => .string (str s))))).set q (some (.kv false [] d.burnt.clock))).set m.size none := by
            unfold syncMem; rw [if_neg (by simp [hmay]), if_neg hf]
          have hpl := Mem.get_lt hrow
          have hql := Mem.get_lt hkv
          have hgl := Mem.get_lt hgo
          have lp := lim_own hp rfl
          have lq := lim_own hq rfl
          have lg := lim_own hg rfl
          obtain ⟨X1, hX1⟩ : ∃ X1, X1 = m.set p (some (.cells false s (dskC q g d.burnt))) := ⟨_, rfl⟩
          obtain ⟨X2, hX2⟩ : ∃ X2, X2 = X1.push (.it false q d.burnt.clock [] d.burnt.clock) := ⟨_, rfl⟩
          obtain ⟨X3, hX3⟩ : ∃ X3, X3 = X2.set g (some (.cells false 1 ((d.burnt.old.mapIdx fun i o => (lastOf d.burnt.last i).getD o).map fun s => .string (str s)))) := ⟨_, rfl⟩
          obtain ⟨X4, hX4⟩ : ∃ X4, X4 = X3.set q (some (.kv false [] d.burnt.clock)) := ⟨_, rfl⟩
          rw [← hX1, ← hX2, ← hX3, ← hX4] at eM
          have z1 : X1.size = m.size := by rw [hX1, Mem.size_set]
          have z2 : X2.size = m.size + 1 := by rw [hX2, Mem.size_push, z1]
          have z3 : X3.size = m.size + 1 := by rw [hX3, Mem.size_set, z2]
          have z4 : X4.size = m.size + 1 := by rw [hX4, Mem.size_set, z3]
          have g1 : X2.get g = some (.cells false 1 (d.old.map fun s => .string (str s))) := by rw [hX2, Mem.get_push_old (by omega), hX1, Mem.get_set_ne c5]; exact hgo
          have g2 : X3.get q = some (.kv false (ents d.last) d.clock) := by rw [hX3, Mem.get_set_ne (Ne.symm c6), hX2, Mem.get_push_old (by omega), hX1, Mem.get_set_ne c4]; exact hkv
          have g3 : X4.get m.size = some (.it false q d.burnt.clock [] d.burnt.clock) := by
            rw [hX4, Mem.get_set_ne (by omega), hX3, Mem.get_set_ne (by omega), hX2, ← z1, Mem.get_push_new]
          have r1 : MR (f.put p (some (.cells false s (dskC q g d.burnt)))) X1 := by rw [hX1]; exact hm.putLim lp hpl _
          have r2 : MR ((f.put p (some (.cells false s (dskC q g d.burnt)))).push (.it false q d.burnt.clock [] d.burnt.clock)) X2 := by rw [hX2]; exact r1.push _
          have e2 : ∀ (a : FMem) (b : Blk), (a.push b).lim = a.lim := fun a b => by rw [FMem.push_eq]
          have e3 : ∀ (a : FMem) (b : Nat) (x : Option Blk), (a.put b x).lim = a.lim := fun _ _ _ => rfl
          have r3 := r2.putLim (b := g) (by rw [e2]; exact lg) (by omega) (some (.cells false 1 ((d.burnt.old.mapIdx fun i o => (lastOf d.burnt.last i).getD o).map fun s => .string (str s))))
          rw [← hX3] at r3
          have r4 := r3.putLim (b := q) (by rw [e3, e2, e3]; exact lq) (by omega) (some (.kv false [] d.burnt.clock))
          rw [← hX4] at r4
          have r5 := r4.putLim (b := f.n) (by rw [e3, e3, e2, e3]; have := hm.2.1; omega) (by have := hm.1; omega) none
          have x1 : Ext m X1 := by rw [hX1]; exact Ext.set hrow _ rfl
          have x2 : Ext X1 X2 := by rw [hX2]; exact Ext.pushAny _ _ rfl
          have x3 : Ext X2 X3 := by rw [hX3]; exact Ext.setAny g1 rfl _ rfl
          have x4 : Ext X3 X4 := by rw [hX4]; exact Ext.setAny g2 rfl _ rfl
          have x5 : Ext X4 (X4.set m.size none) := Ext.setAny g3 rfl _ rfl
          refine ⟨by rw [eM, hm.1]; exact r5, ev (by unfold Dsk.sync; rw [if_neg (by simp [hmay]), if_neg hf]), by rw [eM]; exact (((x1.trans x2).trans x3).trans x4).trans x5⟩
      · rw [decide_eq_false hmay, cond_false, forceV_eq] at h
        cases h
        have eM : syncMem m p q g s d = m := by unfold syncMem; rw [if_pos hmay]
        exact ⟨by rw [eM]; exact hm, ev (by unfold Dsk.sync; rw [if_pos hmay]), by rw [eM]; exact Ext.refl _⟩
end Go.Proofs.YtkkleedpakcfgaaGreatDoor
namespace Go.Proofs.YtkkleedpakcfgaaGreatDoor
open Go.RowKit Abs
def markE : List UInt8 := [83, 76, 69, 49]
def trim0 (s : List UInt8) : List UInt8 := Lib.trimB s 0
def lastV (s : List UInt8) : Int × Int :=
  if Lib.hasPrefix s markE = true then
    (if (Sha.num ((s.drop 4).take 4) : Int) < 1 ∨ trim0 (s.drop 8) ≠ [] then (0, 2) else ((Sha.num ((s.drop 4).take 4) : Nat), 0))
  else if trim0 s = [] then (0, 0) else (0, 2)
def Dsk.lastE (d : Dsk) (i : Int) : Int × Int := if d.may i = 0 then lastV (d.sector i.toNat) else (0, d.may i)
theorem beq_nilS (l : List UInt8) : beqB (str l) ⟨#[]⟩ = decide (l = []) := by
  show (l == []) = _
  cases l <;> simp
end Go.Proofs.YtkkleedpakcfgaaGreatDoor
namespace Go.Proofs.YtkkleedpakcfgaaGreatDoor.Abs
open Go
theorem frame_init {n : Nat → Prop} {ι : Nat → Loc} {xs ys : List Value} {fn : Func} (hys : VRels n ι xs ys) : ARel n ι (aFrame fn xs) { tmps := ys.toArray ++ Array.replicate (fn.ntmps - ys.toArray.size) undef, defers := [] } := by
  refine ⟨rfl, ?_⟩
  simp only [Array.toList_append, Array.toList_replicate, List.size_toArray]
  rw [← hys.1]
  unfold aFrame
  refine VRels.append hys ⟨rfl, fun i x y hx hy => ?_⟩
  rw [hx] at hy
  cases hy
  have := List.mem_of_getElem? hx
  rw [List.mem_replicate] at this
  rw [this.2]
  exact undef_rel
theorem Spec.of_defer {P : Program} {k k' : FuncId} {fn fn' : Func} {c0 c2 c' : Code} {id : Nat} {o1 o2 : Oper} {t : Nat} {caps : Array Operand} {xs : List Value} {m : Mem} {R : Value → Mem → Prop}
    (hf : P.funcs[k]? = some fn) (hb : fn.body = some (.seq c0 (.seq (.region id #[o1, o2] false) c2)))
    (ho1 : o1.op = .makeFunc (.func k') #[] caps) (hd1 : o1.dst = some t) (hg1 : o1.guard = none) (ho2 : o2.op = .defer { callee := .value (.tmp t), args := #[], argTypes := #[] }) (hd2 : o2.dst = none) (hg2 : o2.guard = none)
    (he : entered P k' = true) (hf' : P.funcs[k']? = some fn') (hb' : fn'.body = some c')
    (h : AW P c0 (fun e a1 m1 => e = .normal ∧ ∃ l, evArgs a1 caps.toList = some l ∧ t < a1.length ∧
      ∀ D : Defs, @AW D P c2 (fun e a2 m2 => (e = .ret ∨ e = .normal) ∧ @AW defsNil P c' (fun e' a3 m3 => (e' = .ret ∨ e' = .normal) ∧ (∃ u, aAnswer P fn'.results.toList a3 m3 = some u) ∧ ∃ u, aAnswer P fn.results.toList a2 m3 = some u ∧ R u m3) (aFrame fn' l) m2)
        (a1.set t (.func (.func k') #[] l.toArray)) m1) (aFrame fn xs) m) : Spec P k xs m R := by
  intro ι w ys hys hr
  refine calls_of_wp_defers hf hb ?_
  refine wp_seq (wp_mono (h ι m w ι _ w (Step.refl _ _ _) (frame_init hys) hr) ?_)
  rintro e act w1 ⟨κ, a1, m1, ⟨rfl, l, hl, htl, h2⟩, ha, hr1, hs1⟩
  refine wp_seq (wp_region_list ?_)
  have hla := evArgs_rel ha hl
  obtain ⟨cs, hcs⟩ : ∃ cs, cs = caps.map act.eval := ⟨_, rfl⟩
  have hlc : VRels m1.Has κ l cs.toList := by rw [hcs, Array.toList_map]; exact hla
  have hty : act.tmps.size = a1.length := by have := ha.tmps.1; simpa using this.symm
  have hw : ∀ (o : Oper) (y : Nat → Option Bool), o.guard = none → Region.wanted o y = true := fun o y hg => by unfold Region.wanted; rw [hg]
  have run1 : (execOp act.eval o1).run P w1 = .ok (.value (.func (.func k') #[] cs)) w1 := by
    simp [execOp, ho1, hcs, Instr.makeFunc]
  obtain ⟨act1, hact1⟩ : ∃ act1, act1 = act.put (some t) (.func (.func k') #[] cs) := ⟨_, rfl⟩
  have heval : act1.eval (.tmp t) = .func (.func k') #[] cs := by
    rw [hact1]
    simp [Act.eval, Act.put, hty, htl]
  have run2 : (execOp act1.eval o2).run P w1 = .ok (.defer ⟨.fn (.func k') cs, #[]⟩) w1 := by
    unfold execOp
    rw [ho2]
    simp [resolve, heval, Deferred.ofValue]
  have hput : ({ act1 with defers := ⟨.fn (.func k') cs, #[]⟩ :: act1.defers } : Act).put o2.dst undef = { tmps := act1.tmps, defers := [⟨.fn (.func k') cs, #[]⟩] } := by
    have : act1.defers = [] := by rw [hact1]; exact ha.defers
    rw [hd2, this]
    rfl
  simp only [wpList]
  rw [if_pos (hw _ _ hg1)]
  left
  unfold Oper.wp
  rw [run1, Oper.upon_value, hd1, ← hact1]
  rw [if_pos (hw _ _ hg2)]
  left
  rw [run2, Oper.upon_defer, hput]
  -- what comes behind
  have ha1 : ARel m1.Has κ (a1.set t (.func (.func k') #[] l.toArray)) act1 := by
    rw [hact1]
    refine ha.put t (.func _ _ _ _ _ rfl (fun i x y hx => by simp at hx) ?_ fun i x y hx hy => ?_)
    · have := hlc.1; simpa using this
    · exact hlc.2 i x y (by simpa using hx) (by simpa using hy)
  have ha2 : @ARel ⟨[⟨.fn (.func k') cs, #[]⟩]⟩ m1.Has κ (a1.set t (.func (.func k') #[] l.toArray)) { tmps := act1.tmps, defers := [⟨.fn (.func k') cs, #[]⟩] } := @ARel.mk ⟨[⟨.fn (.func k') cs, #[]⟩]⟩ _ _ _ _ rfl ha1.tmps
  refine wp_mono (h2 ⟨[⟨.fn (.func k') cs, #[]⟩]⟩ κ m1 w1 κ _ w1 (Step.refl _ _ _) ha2 hr1) ?_
  rintro e act2 w2 ⟨μ, a2, m2, ⟨he2, haw⟩, hA2, hr2, hs2⟩
  have hdef : act2.defers = [⟨.fn (.func k') cs, #[]⟩] := @ARel.defers ⟨[⟨.fn (.func k') cs, #[]⟩]⟩ _ _ _ _ hA2
  have hinv : (invoke (.fn (.func k') cs) #[]).run P w2 = .ok (.enter k' cs) w2 := by
    unfold entered at he
    rw [hf'] at he
    simp only [Bool.and_eq_true, Bool.not_eq_true'] at he
    have hbn : fn'.body.isNone = false := by rw [hb']; rfl
    simp only [invoke, callFunc, Sem.run_bind, run_program, Result.andThen_ok, hf', he.2, hbn, Bool.false_eq_true, if_false, Array.empty_append]
    rfl
  have hlc2 : VRels m2.Has μ l cs.toList := hlc.mono hs2.grows hs2.at_
  have hleave : Leaves P fn act2.tmps (fun e w' => ∃ v v' κ m', R v m' ∧ e = .returned v' ∧ VRel m'.Has κ v v' ∧ Rel κ m' w' ∧ Step ι m w κ m' w') [⟨.fn (.func k') cs, #[]⟩] .returning w2 := by
    refine leaves_cons (by simp) hinv (CallsD.mono (callsD_of_wp (R := fun e w' => ∃ v', e = .returned v' ∧ ∃ u0, (results fn act2.tmps).run P w' = .ok u0 w' ∧ ∃ v v' κ m', R v m' ∧ Ending.returned u0 = .returned v' ∧ VRel m'.Has κ v v' ∧ Rel κ m' w' ∧ Step ι m w κ m' w') hf' hb' ?_) ?_)
    · have hfi := frame_init (fn := fn') hlc2
      rw [Array.toArray_toList] at hfi
      refine wp_mono (haw μ m2 w2 μ _ w2 (Step.refl _ _ _) hfi hr2) ?_
      rintro e act3 w3 ⟨ν, a3, m3, ⟨he3, ⟨u1, hu1⟩, u, hu, hR⟩, hA3, hr3, hs3⟩
      obtain ⟨v1, hv1, _⟩ := aAnswer_run hA3 hr3 hu1
      have hA2' : @ARel ⟨[⟨.fn (.func k') cs, #[]⟩]⟩ m3.Has ν a2 act2 := @ARel.mono ⟨[⟨.fn (.func k') cs, #[]⟩]⟩ _ _ _ _ hs3.grows hs3.at_ _ _ hA2
      obtain ⟨v2, hv2, hv3⟩ := @aAnswer_run _ _ _ ⟨[⟨.fn (.func k') cs, #[]⟩]⟩ _ _ _ _ _ hA2' hr3 hu
      have key : ∃ v, (results fn' act3.tmps).run P w3 = .ok v w3 ∧ ∃ v', Ending.returned v = .returned v' ∧ ∃ u0, (results fn act2.tmps).run P w3 = .ok u0 w3 ∧ ∃ v v' κ m', R v m' ∧ Ending.returned u0 = .returned v' ∧ VRel m'.Has κ v v' ∧ Rel κ m' w3 ∧ Step ι m w κ m' w3 :=
        ⟨v1, hv1, v1, rfl, v2, hv2, u, v2, ν, m3, hR, rfl, hv3, hr3, (hs1.trans hs2).trans hs3⟩
      rcases he3 with rfl | rfl
      · exact ⟨hA3.defers, key⟩
      · exact ⟨hA3.defers, key⟩
    · rintro e u' w' ⟨rfl, v', rfl, u0, hu0, hR⟩
      exact ⟨u0, hu0, hR⟩
  rcases he2 with rfl | rfl
  · show Leaves P fn act2.tmps _ act2.defers .returning w2
    rw [hdef]; exact hleave
  · show Leaves P fn act2.tmps _ act2.defers .returning w2
    rw [hdef]; exact hleave
end Go.Proofs.YtkkleedpakcfgaaGreatDoor.Abs
namespace Go.Proofs.YtkkleedpakcfgaaGreatDoor.Abs
open Go Go.RowKit
theorem sAnswer_spec {P : Program} {rs : List ResultVar} {n : Nat} {f : AL} {a : List Value} {m : Mem} (h1 : Knows n f a) {v : Value} (hv : sAnswer P rs f m = some v) : aAnswer P rs a m = some v := by
  unfold sAnswer at hv
  unfold aAnswer
  split at hv <;> first | (cases hv; done) | skip
  · rename_i v0 hv0; cases hv; simp only [sRes_spec h1 _ _ hv0]
  · rename_i l hne hl
    cases hv
    simp only [sRes_spec h1 _ _ hl]
theorem knows_frame {xs : List Value} {fn : Func} (hx : xs.length ≤ fn.ntmps) : Knows fn.ntmps (alOf 0 xs) (aFrame fn xs) := by
  refine ⟨by simp [aFrame]; omega, fun t v hv => ?_⟩
  obtain ⟨_, h2⟩ := alOf_get xs 0 t v hv
  unfold aFrame
  rw [List.getElem?_append, if_pos]
  · exact h2
  · exact (List.getElem?_eq_some_iff.1 h2).1
def dEnd (P : Program) (c' : Code) (n' : Nat) (l : List Value) (rs : List ResultVar) (R : Value → Mem → Prop) (e : Exit) (f2 : AL) (m2 : Mem) : Prop :=
  (e = .ret ∨ e = .normal) ∧ @SW defsNil P n' c' (fun e' _ m3 => (e' = .ret ∨ e' = .normal) ∧ ∃ u, sAnswer P rs f2 m3 = some u ∧ R u m3) (alOf 0 l) m2
theorem Spec.walk_defer {P : Program} {k k' : FuncId} {fn fn' : Func} {c0 c2 c' : Code} {id : Nat} {o1 o2 : Oper} {t : Nat} {caps : Array Operand} {xs : List Value} {m : Mem} {R : Value → Mem → Prop}
    (hf : P.funcs[k]? = some fn) (hb : fn.body = some (.seq c0 (.seq (.region id #[o1, o2] false) c2)))
    (ho1 : o1.op = .makeFunc (.func k') #[] caps) (hd1 : o1.dst = some t) (hg1 : o1.guard = none) (ho2 : o2.op = .defer { callee := .value (.tmp t), args := #[], argTypes := #[] }) (hd2 : o2.dst = none) (hg2 : o2.guard = none)
    (he : entered P k' = true) (hf' : P.funcs[k']? = some fn') (hb' : fn'.body = some c') (hr' : fn'.results = #[]) (rs : Array ResultVar) (hr : fn.results = rs) (n : Nat) (hn : fn.ntmps = n) (hx : xs.length ≤ n) (htn : t < n) (n' : Nat) (hn' : fn'.ntmps = n')
    (h : SW P n c0 (fun e f1 m1 => e = .normal ∧ ∃ l, sArgs (AL.look f1) caps.toList = some l ∧ l.length ≤ n' ∧
      ∀ D : Defs, @SW D P n c2 (dEnd P c' n' l rs.toList R) ((t, .func (.func k') #[] l.toArray) :: f1) m1) (alOf 0 xs) m) : Spec P k xs m R := by
  subst hr; subst hn; subst hn'
  refine Spec.of_defer hf hb ho1 hd1 hg1 ho2 hd2 hg2 he hf' hb' ((h _ (knows_frame hx)).mono ?_)
  rintro e a1 m1 ⟨f1, k1, rfl, l, hl, hll, h2⟩
  have close : ∀ e f2 a2 m2, Knows fn.ntmps f2 a2 → dEnd P c' fn'.ntmps l fn.results.toList R e f2 m2 →
      (e = .ret ∨ e = .normal) ∧ AW P c' (fun e' a3 m3 => (e' = .ret ∨ e' = .normal) ∧ (∃ u, aAnswer P fn'.results.toList a3 m3 = some u) ∧ ∃ u, aAnswer P fn.results.toList a2 m3 = some u ∧ R u m3) (aFrame fn' l) m2 := by
    rintro e f2 a2 m2 k2 ⟨he2, h3⟩
    refine ⟨he2, (h3 _ (knows_frame hll)).mono ?_⟩
    rintro e' a3 m3 ⟨f3, k3, he3, u, hu, hR⟩
    refine ⟨he3, ⟨.tuple #[], by rw [hr']; rfl⟩, u, sAnswer_spec k2 hu, hR⟩
  refine ⟨rfl, l, ?_, by rw [k1.1]; exact htn, fun D => ?_⟩
  · rw [sArgs_eq] at hl
    exact fArgs_spec k1.look _ hl
  · have := h2 D _ (k1.put htn (.func (.func k') #[] l.toArray))
    refine @AW.mono D _ _ _ _ _ _ this ?_
    rintro e a2 m2 ⟨f2, k2, h3⟩
    exact close e f2 a2 m2 k2 h3
end Go.Proofs.YtkkleedpakcfgaaGreatDoor.Abs
