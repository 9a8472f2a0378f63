/-
  A disk, in plain words: what is synced, what was written since; what its methods answer.
  Pointers, compared.
  What stays of a memory.
  What an operation leaves alone in memory.
  Sums within bounds; the lesser and the greater.
  The steps of a walk, each in one lemma.
  The walks of a disk's methods.
  The walk of a disk's Sync.
  The walks of the epoch's sector.
  A function that is to do something behind its body.
  A function that is to do something behind its body: its walk.
  The walk of epoch.Next.
  The program's types in memory.
  The walks of header: its fields, its check.
  The walks of header: its check.
  The walks of header: it is verified.
  The walk of header.Take.
  The walk of header.Take: what is no header.
  The walks of the document's answer for layer 1: numbers as bytes, and back; lists of texts.
  What header.Take answers, as a header and a number.
-/
import Derived.Test.YtfdijpacbhomjaaGreatDoorMsnd10
import Derived.Test.YtfdijpacbhomjaaGreatDoorMsnd09
import Derived.Test.YtfdijpacbhomjaaGreatDoorMsnd03
import Derived.Test.YtfdijpacbhomjaaGreatDoorMsnd06
import Derived.Defers
import Derived.Test.YtfdijpacbhomjaaGreatDoorMsnd01
import Derived.Deep.RegionHeld3
import Derived.Deep.CutRange
set_option linter.all false
namespace Go.Proofs.YtfdijpacbhomjaaGreatDoor
open Go.RowKit Abs
abbrev LastL := List (Nat × List UInt8 × Nat)
structure Dsk where
  old : List (List UInt8)
  last : LastL
  clock : Nat
  fuse : Int
  dead : Bool
def lastOf (L : LastL) (i : Nat) : Option (List UInt8) := (L.find? fun x => x.1 == i).map (·.2.1)
def ents (L : LastL) : List MapEntry := L.map fun x => ⟨.int .i64 (x.1 : Nat), .string (str x.2.1), x.2.2⟩
structure Dsk.Ok (d : Dsk) : Prop where
  n : d.old.length ≤ 1024
  pos : 0 < d.old.length
  size : ∀ s ∈ d.old, s.length = 256
  keys : (d.last.map (·.1)).Nodup
  born : (d.last.map (·.2.2)).Nodup
  clock : ∀ x ∈ d.last, x.2.2 < d.clock
  within : ∀ x ∈ d.last, x.1 < d.old.length ∧ x.2.1.length = 256
  fuse : -1 ≤ d.fuse ∧ d.fuse ≤ 9223372036854775807
  old_big : True
def Dsk.may (d : Dsk) (i : Int) : Int := if d.dead = true then 7 else if i < 0 ∨ (d.old.length : Int) ≤ i then 10 else 0
def Dsk.sector (d : Dsk) (i : Nat) : List UInt8 := (lastOf d.last i).getD ((d.old[i]?).getD [])
def Dsk.burnt (d : Dsk) : Dsk := if d.fuse = 0 then { d with dead := true } else { d with fuse := max (d.fuse - 1) (-1) }
def syncV (old : List (List UInt8)) (L : LastL) (seen : List Nat) : List (List UInt8) :=
  old.mapIdx fun i o => match L.find? fun x => x.1 == i && seen.contains x.2.2 with | some x => x.2.1 | none => o
def Dsk.synced (d : Dsk) : Dsk := { d with old := d.old.mapIdx fun i o => (lastOf d.last i).getD o, last := [] }
def Dsk.sync (d : Dsk) : Dsk × Int := if d.may 0 ≠ 0 then (d, d.may 0) else if d.fuse = 0 then (d.burnt, 7) else (d.burnt.synced, 0)
theorem find_congr {α : Type} {p q : α → Bool} : ∀ {l : List α}, (∀ x ∈ l, p x = q x) → l.find? p = l.find? q
  | [], _ => rfl
  | a :: l, h => by
    simp only [List.find?_cons, h a List.mem_cons_self, find_congr fun x hx => h x (List.mem_cons_of_mem _ hx)]
theorem lastOf_some {L : LastL} {i : Nat} {s : List UInt8} (h : lastOf L i = some s) : ∃ b, (i, s, b) ∈ L := by
  unfold lastOf at h
  rw [Option.map_eq_some_iff] at h
  obtain ⟨x, hx, rfl⟩ := h
  have h1 := List.mem_of_find?_eq_some hx
  have h2 := List.find?_some hx
  simp only [beq_iff_eq] at h2
  exact ⟨x.2.2, by rw [← h2]; exact h1⟩
theorem nodup_fst {L : LastL} (h : (L.map (·.1)).Nodup) {x y : Nat × List UInt8 × Nat} (hx : x ∈ L) (hy : y ∈ L) (e : x.1 = y.1) : x = y := by
  induction L with
  | nil => cases hx
  | cons a L ih =>
    rw [List.map_cons, List.nodup_cons] at h
    rcases List.mem_cons.1 hx with rfl | hx' <;> rcases List.mem_cons.1 hy with rfl | hy'
    · rfl
    · exact absurd (List.mem_map.2 ⟨y, hy', e.symm⟩) h.1
    · exact absurd (List.mem_map.2 ⟨x, hx', e⟩) h.1
    · exact ih h.2 hx' hy'
theorem kt_map : Tryz.prog.underlying 128 = some (.map 3 9) := Tryz.underlying128
theorem clear_dsk {m : Mem} {q : Nat} {es : List MapEntry} {c : Nat} (h : m.get q = some (.kv false es c)) : aClear Tryz.prog m 128 (.map (some q)) = some (m.set q (some (.kv false (ents []) c))) := by
  unfold aClear
  rw [kt_map]
  simp only [h]
  rfl
theorem range_dsk {m : Mem} {q : Nat} {r : Bool} {es : List MapEntry} {c : Nat} (h : m.get q = some (.kv r es c)) : aRange Tryz.prog m 128 (.map (some q)) = some (.pointer (some ⟨m.size, 0, none⟩), m.push (.it false q c [] c)) := by
  unfold aRange
  rw [kt_map]
  simp only [h]
theorem Dsk.Ok.burnt {d : Dsk} (h : d.Ok) : d.burnt.Ok := by
  unfold Dsk.burnt
  split
  · exact ⟨h.n, h.pos, h.size, h.keys, h.born, h.clock, h.within, h.fuse, trivial⟩
  · have hf := h.fuse
    exact ⟨h.n, h.pos, h.size, h.keys, h.born, h.clock, h.within, by simp only; omega, trivial⟩
theorem burnt_old (d : Dsk) : d.burnt.old = d.old := by unfold Dsk.burnt; split <;> rfl
theorem burnt_last (d : Dsk) : d.burnt.last = d.last := by unfold Dsk.burnt; split <;> rfl
theorem burnt_clock (d : Dsk) : d.burnt.clock = d.clock := by unfold Dsk.burnt; split <;> rfl
theorem Dsk.Ok.sector {d : Dsk} (h : d.Ok) {i : Nat} (hi : i < d.old.length) : (d.sector i).length = 256 := by
  unfold Dsk.sector
  cases hl : lastOf d.last i with
  | some s =>
    obtain ⟨b, hb⟩ := lastOf_some hl
    exact (h.within _ hb).2
  | none =>
    rw [List.getElem?_eq_getElem hi]
    exact h.size _ (List.getElem_mem hi)
theorem Dsk.Ok.synced {d : Dsk} (h : d.Ok) : d.synced.Ok := by
  unfold Dsk.synced
  refine ⟨by simpa using h.n, by simpa using h.pos, fun s hs => ?_, by simp, by simp, fun x hx => by simp at hx, fun x hx => by simp at hx, h.fuse, trivial⟩
  simp only at hs
  rw [List.mem_mapIdx] at hs
  obtain ⟨i, hi, rfl⟩ := hs
  have := h.sector hi
  unfold Dsk.sector at this
  rw [List.getElem?_eq_getElem hi] at this
  exact this
theorem syncV_nil (old : List (List UInt8)) (L : LastL) : syncV old L [] = old := by
  unfold syncV
  have : ∀ i : Nat, L.find? (fun x => x.1 == i && ([] : List Nat).contains x.2.2) = none := fun i => by rw [List.find?_eq_none]; simp
  simp only [this]
  apply List.ext_getElem?
  intro i
  simp
theorem syncV_len (old : List (List UInt8)) (L : LastL) (seen : List Nat) : (syncV old L seen).length = old.length := by unfold syncV; simp
theorem syncV_step {old : List (List UInt8)} {L : LastL} {seen : List Nat} (hk : (L.map (·.1)).Nodup) {x : Nat × List UInt8 × Nat} (hx : x ∈ L) : (syncV old L seen).set x.1 x.2.1 = syncV old L (seen ++ [x.2.2]) ∨ ∃ y ∈ L, y ≠ x ∧ y.2.2 = x.2.2 := by
  by_cases hd : ∃ y ∈ L, y ≠ x ∧ y.2.2 = x.2.2
  · exact .inr hd
  · left
    apply List.ext_getElem?
    intro i
    rw [List.getElem?_set]
    unfold syncV
    simp only [List.length_mapIdx, List.getElem?_mapIdx]
    cases ho : old[i]? with
    | none =>
      have : ¬ i < old.length := by have := List.getElem?_eq_none_iff.1 ho; omega
      by_cases e : x.1 = i
      · simp [e, this]
      · simp [e]
    | some o =>
      have hlt : i < old.length := (List.getElem?_eq_some_iff.1 ho).1
      by_cases e : x.1 = i
      · have hf : L.find? (fun y => y.1 == i && (seen ++ [x.2.2]).contains y.2.2) = some x := by
          have hex : L.find? (fun y => y.1 == i && (seen ++ [x.2.2]).contains y.2.2) ≠ none := by
            rw [Ne, List.find?_eq_none]
            intro h
            exact h x hx (by simp [e])
          obtain ⟨y, hy⟩ := Option.ne_none_iff_exists'.1 hex
          have h1 := List.mem_of_find?_eq_some hy
          have h2 := List.find?_some hy
          simp only [Bool.and_eq_true, beq_iff_eq] at h2
          rw [hy, nodup_fst hk h1 hx (by rw [h2.1, e])]
        rw [if_pos e, if_pos (by rw [e]; exact hlt), Option.map_some, hf]
      · simp only [e, if_false, Option.map_some]
        congr 1
        have : L.find? (fun y => y.1 == i && seen.contains y.2.2) = L.find? (fun y => y.1 == i && (seen ++ [x.2.2]).contains y.2.2) := by
          apply find_congr
          intro y hy
          by_cases e2 : y.1 = i
          · have : y.2.2 ≠ x.2.2 := fun h => hd ⟨y, hy, fun h' => e (by rw [← h']; exact e2), h⟩
            simp [this]
          · have : (y.1 == i) = false := by simpa using e2
            rw [this]; rfl
        rw [this]
theorem syncV_all {old : List (List UInt8)} {L : LastL} {seen : List Nat} (h : aLeft (ents L) seen = []) : syncV old L seen = old.mapIdx fun i o => (lastOf L i).getD o := by
  have hall : ∀ x ∈ L, seen.contains x.2.2 = true := fun x hx => by
    unfold aLeft at h
    rw [List.filter_eq_nil_iff] at h
    have := h ⟨.int .i64 (x.1 : Nat), .string (str x.2.1), x.2.2⟩ (List.mem_map.2 ⟨x, hx, rfl⟩)
    simpa using this
  unfold syncV
  apply List.ext_getElem?
  intro i
  simp only [List.getElem?_mapIdx]
  cases ho : old[i]? with
  | none => rfl
  | some o =>
    simp only [Option.map_some]
    congr 1
    have : L.find? (fun y => y.1 == i && seen.contains y.2.2) = L.find? (fun y => y.1 == i) := by
      apply find_congr
      intro y hy
      rw [hall y hy, Bool.and_true]
    rw [this]
    unfold lastOf
    cases L.find? (fun y => y.1 == i) <;> rfl
theorem aLeft_mem {L : LastL} {seen : List Nat} {e : MapEntry} (h : e ∈ aLeft (ents L) seen) : ∃ x ∈ L, e = ⟨.int .i64 (x.1 : Nat), .string (str x.2.1), x.2.2⟩ ∧ seen.contains x.2.2 = false := by
  unfold aLeft at h
  rw [List.mem_filter] at h
  obtain ⟨h1, h2⟩ := h
  obtain ⟨x, hx, rfl⟩ := List.mem_map.1 h1
  exact ⟨x, hx, rfl, by simpa using h2⟩
theorem aLeft_less {L : LastL} {seen : List Nat} {e : MapEntry} (h : e ∈ aLeft (ents L) seen) : (aLeft (ents L) (seen ++ [e.born])).length < (aLeft (ents L) seen).length := by
  have : aLeft (ents L) (seen ++ [e.born]) = (aLeft (ents L) seen).filter fun x => !(x.born == e.born) := by
    unfold aLeft
    rw [List.filter_filter]
    apply List.filter_congr
    intro x _
    cases h1 : seen.contains x.born <;> cases h2 : (x.born == e.born) <;> simp_all
  rw [this]
  exact List.length_filter_lt_length_iff_exists.2 ⟨e, h, by simp⟩
theorem ents_find {L : LastL} (hb : (L.map (·.2.2)).Nodup) {x : Nat × List UInt8 × Nat} (hx : x ∈ L) : (ents L).find? (fun e => e.born == x.2.2) = some ⟨.int .i64 (x.1 : Nat), .string (str x.2.1), x.2.2⟩ := by
  induction L with
  | nil => cases hx
  | cons a L ih =>
    rw [List.map_cons, List.nodup_cons] at hb
    unfold ents
    rw [List.map_cons]
    rcases List.mem_cons.1 hx with rfl | hx'
    · rw [List.find?_cons_of_pos (by simp)]
    · have : a.2.2 ≠ x.2.2 := fun e => hb.1 (List.mem_map.2 ⟨x, hx', e.symm⟩)
      rw [List.find?_cons_of_neg (by simpa using this)]
      exact ih hb.2 hx'
end Go.Proofs.YtfdijpacbhomjaaGreatDoor
namespace Go.Proofs.YtfdijpacbhomjaaGreatDoor
open Go.RowKit Abs
theorem pd_eql (p o : Nat) : aBin Tryz.prog .eql 68 true (.pointer (some ⟨p, o, none⟩)) (.pointer none) = some (.bool false) := by kernel_rfl
theorem pd_neq (p o : Nat) : aBin Tryz.prog .neq 68 true (.pointer (some ⟨p, o, none⟩)) (.pointer none) = some (.bool true) := by kernel_rfl
theorem pd_eql0 : aBin Tryz.prog .eql 68 true (.pointer none) (.pointer none) = some (.bool true) := by kernel_rfl
theorem pd_neq0 : aBin Tryz.prog .neq 68 true (.pointer none) (.pointer none) = some (.bool false) := by kernel_rfl
theorem pr_eql (p o : Nat) : aBin Tryz.prog .eql 148 true (.pointer (some ⟨p, o, none⟩)) (.pointer none) = some (.bool false) := by kernel_rfl
def zPt := @pr_eql
end Go.Proofs.YtfdijpacbhomjaaGreatDoor
namespace Go.Proofs.YtfdijpacbhomjaaGreatDoor
open Go.RowKit Abs
theorem get_live {M : Mem} {b : Nat} {x : Blk} (h : M.get b = some x) : b < M.size := Mem.get_lt h
end Go.Proofs.YtfdijpacbhomjaaGreatDoor
namespace Go.Proofs.YtfdijpacbhomjaaGreatDoor
open Go.RowKit Abs
def Only (l : List Nat) (M M' : Mem) : Prop := ∀ b x, b ∉ l → M.get b = some x → M'.get b = some x
theorem Only.set {l : List Nat} {M : Mem} {b : Nat} (hb : b ∈ l) (o : Option Blk) : Only l M (M.set b o) := fun c x hc hx => by
  rw [Mem.get_set_ne (fun e => hc (by rw [← e]; exact hb))]; exact hx
end Go.Proofs.YtfdijpacbhomjaaGreatDoor
namespace Go.Proofs.YtfdijpacbhomjaaGreatDoor.Abs
open Go
theorem wri {x : Int} (h0 : -9223372036854775808 ≤ x) (h1 : x ≤ 9223372036854775807) : IntKind.i64.wrap x = x := by
  unfold IntKind.wrap; simp [IntKind.bits, IntKind.signed]; omega
theorem vMax_int (a b : Int) : vMin false [.int .i64 a, .int .i64 b] = some (.int .i64 (max a b)) := by
  simp only [vMin, evMin, aMin2]
  by_cases h : b > a
  · simp [h]; omega
  · simp [h]; omega
theorem vMin_int (a b : Int) : vMin true [.int .i64 a, .int .i64 b] = some (.int .i64 (min a b)) := by
  simp only [vMin, evMin, aMin2]
  by_cases h : b < a
  · simp [h]; omega
  · simp [h]; omega
end Go.Proofs.YtfdijpacbhomjaaGreatDoor.Abs
namespace Go.Proofs.YtfdijpacbhomjaaGreatDoor.Abs
open Go Go.RowKit
def zA := And.intro (And.intro @zZ @zDk) (And.intro @pd_eql @zPt)
section
variable {n k : Nat} {f : AL} {m : Mem} {Q : Exit → AL → Mem → Prop} {B : Prop}
theorem CF {c : Operand} {x y : Code} (h : @CW Tryz.prog n k ⟨y⟩ ⟨Q⟩ f m) (hc : AL.look f c = some (.bool false) := by rfl) : @CW Tryz.prog n k ⟨.cond c x y⟩ ⟨Q⟩ f m := CW_cond false hc (fun e => by cases e) fun _ => h
theorem CC {c : Operand} {x y : Code} (t : Bool) (ht : t = true → @CW Tryz.prog n k ⟨x⟩ ⟨Q⟩ f m) (hf : t = false → @CW Tryz.prog n k ⟨y⟩ ⟨Q⟩ f m) (hc : AL.look f c = some (.bool t) := by rfl) : @CW Tryz.prog n k ⟨.cond c x y⟩ ⟨Q⟩ f m := CW_cond t hc ht hf
theorem WM {g : FuncId} {fn : Func} {c : Code} {xs : List Value} {R : Value → Mem → Prop} {m : Mem} (hf : Tryz.prog.funcs[g]? = some fn) {rs : Array ResultVar} (hr : fn.results = rs) {n : Nat} (hn : fn.ntmps = n)
    (h : ∀ k, @CW Tryz.prog n k ⟨c⟩ ⟨mEnd Tryz.prog rs.toList R⟩ (alOf 0 xs) m) (hb : fn.body = some c := by rfl) (hx : xs.length ≤ n := by simp) : Spec Tryz.prog g xs m R := Spec.walkM hf hb rs hr n hn hx fun _ _ => h
theorem S0 {A : Prop} (h : B) (e : A = B := by simp only [zA, reduceIte, Nat.reduceLT, Int.reduceToNat, Int.reduceLE, Int.reduceEq, Int.reduceLT, Nat.reduceEqDiff, Nat.reduceAdd, Nat.reduceSub]; rfl) : A := e.mpr h
theorem R0 {id : Nat} {ops : Array Oper} (h : B) (e : @sOpsB Tryz.prog n ops.toList ⟨Q .normal⟩ ops.toList f m = B := by simp only [zA, reduceIte, Nat.reduceLT, Int.reduceToNat, Int.reduceLE, Int.reduceEq, Int.reduceLT, Nat.reduceEqDiff, Nat.reduceAdd, Nat.reduceSub]; rfl) : @CW Tryz.prog n k ⟨.region id ops false⟩ ⟨Q⟩ f m := CW_region (e.mpr h)
theorem T0 (h : B) (e : Q .ret f m = B := by simp only [zA, reduceIte, Nat.reduceLT, Int.reduceToNat, Int.reduceLE, Int.reduceEq, Int.reduceLT, Nat.reduceEqDiff, Nat.reduceAdd, Nat.reduceSub, mEnd, sAnswer, sAnswer.sRes]; rfl) : @CW Tryz.prog n k ⟨.ret⟩ ⟨Q⟩ f m := CW_ret (e.mpr h)
theorem K0 {g : FuncId} {xs : List Value} {v : Value} {G : Value → Mem → Prop} (s : Spec Tryz.prog g xs m fun u M => u = v ∧ M = m) (h : B) (he : entered Tryz.prog g = true := by kernel_rfl) (e : G v m = B := by simp only [zA, reduceIte, Nat.reduceLT, Int.reduceToNat, Int.reduceLE, Int.reduceEq, Int.reduceLT, Nat.reduceEqDiff, Nat.reduceAdd, Nat.reduceSub]; rfl) : entered Tryz.prog g = true ∧ ∃ R, Spec Tryz.prog g xs m R ∧ @Later ⟨∀ u M, R u M → G u M⟩ := ⟨he, _, s, fun u M ⟨hu, hM⟩ => by subst hu; subst hM; exact e.mpr h⟩
theorem S1 {A : Prop} {F0 : Prop} (g0 : F0) (h : B) (e : F0 → A = B := by intro g0; simp only [zA, g0, reduceIte, Nat.reduceLT, Int.reduceToNat, Int.reduceLE, Int.reduceEq, Int.reduceLT, Nat.reduceEqDiff, Nat.reduceAdd, Nat.reduceSub]; rfl) : A := (e g0).mpr h
theorem R1 {id : Nat} {ops : Array Oper} {F0 : Prop} (g0 : F0) (h : B) (e : F0 → @sOpsB Tryz.prog n ops.toList ⟨Q .normal⟩ ops.toList f m = B := by intro g0; simp only [zA, g0, reduceIte, Nat.reduceLT, Int.reduceToNat, Int.reduceLE, Int.reduceEq, Int.reduceLT, Nat.reduceEqDiff, Nat.reduceAdd, Nat.reduceSub]; rfl) : @CW Tryz.prog n k ⟨.region id ops false⟩ ⟨Q⟩ f m := CW_region ((e g0).mpr h)
theorem S2 {A : Prop} {F0 F1 : Prop} (g0 : F0) (g1 : F1) (h : B) (e : F0 → F1 → A = B := by intro g0 g1; simp only [zA, g0, g1, reduceIte, Nat.reduceLT, Int.reduceToNat, Int.reduceLE, Int.reduceEq, Int.reduceLT, Nat.reduceEqDiff, Nat.reduceAdd, Nat.reduceSub]; rfl) : A := (e g0 g1).mpr h
theorem S3 {A : Prop} {F0 F1 F2 : Prop} (g0 : F0) (g1 : F1) (g2 : F2) (h : B) (e : F0 → F1 → F2 → A = B := by intro g0 g1 g2; simp only [zA, g0, g1, g2, reduceIte, Nat.reduceLT, Int.reduceToNat, Int.reduceLE, Int.reduceEq, Int.reduceLT, Nat.reduceEqDiff, Nat.reduceAdd, Nat.reduceSub]; rfl) : A := (e g0 g1 g2).mpr h
theorem S4 {A : Prop} {F0 F1 F2 F3 : Prop} (g0 : F0) (g1 : F1) (g2 : F2) (g3 : F3) (h : B) (e : F0 → F1 → F2 → F3 → A = B := by intro g0 g1 g2 g3; simp only [zA, g0, g1, g2, g3, reduceIte, Nat.reduceLT, Int.reduceToNat, Int.reduceLE, Int.reduceEq, Int.reduceLT, Nat.reduceEqDiff, Nat.reduceAdd, Nat.reduceSub]; rfl) : A := (e g0 g1 g2 g3).mpr h
theorem S5 {A : Prop} {F0 F1 F2 F3 F4 : Prop} (g0 : F0) (g1 : F1) (g2 : F2) (g3 : F3) (g4 : F4) (h : B) (e : F0 → F1 → F2 → F3 → F4 → A = B := by intro g0 g1 g2 g3 g4; simp only [zA, g0, g1, g2, g3, g4, reduceIte, Nat.reduceLT, Int.reduceToNat, Int.reduceLE, Int.reduceEq, Int.reduceLT, Nat.reduceEqDiff, Nat.reduceAdd, Nat.reduceSub]; rfl) : A := (e g0 g1 g2 g3 g4).mpr h
theorem R5 {id : Nat} {ops : Array Oper} {F0 F1 F2 F3 F4 : Prop} (g0 : F0) (g1 : F1) (g2 : F2) (g3 : F3) (g4 : F4) (h : B) (e : F0 → F1 → F2 → F3 → F4 → @sOpsB Tryz.prog n ops.toList ⟨Q .normal⟩ ops.toList f m = B := by intro g0 g1 g2 g3 g4; simp only [zA, g0, g1, g2, g3, g4, reduceIte, Nat.reduceLT, Int.reduceToNat, Int.reduceLE, Int.reduceEq, Int.reduceLT, Nat.reduceEqDiff, Nat.reduceAdd, Nat.reduceSub]; rfl) : @CW Tryz.prog n k ⟨.region id ops false⟩ ⟨Q⟩ f m := CW_region ((e g0 g1 g2 g3 g4).mpr h)
theorem K6 {g : FuncId} {xs : List Value} {v : Value} {G : Value → Mem → Prop} {F0 F1 F2 F3 F4 F5 : Prop} (g0 : F0) (g1 : F1) (g2 : F2) (g3 : F3) (g4 : F4) (g5 : F5) (s : Spec Tryz.prog g xs m fun u M => u = v ∧ M = m) (h : B) (he : entered Tryz.prog g = true := by kernel_rfl) (e : F0 → F1 → F2 → F3 → F4 → F5 → G v m = B := by intro g0 g1 g2 g3 g4 g5; simp only [zA, g0, g1, g2, g3, g4, g5, reduceIte, Nat.reduceLT, Int.reduceToNat, Int.reduceLE, Int.reduceEq, Int.reduceLT, Nat.reduceEqDiff, Nat.reduceAdd, Nat.reduceSub]; rfl) : entered Tryz.prog g = true ∧ ∃ R, Spec Tryz.prog g xs m R ∧ @Later ⟨∀ u M, R u M → G u M⟩ := ⟨he, _, s, fun u M ⟨hu, hM⟩ => by subst hu; subst hM; exact (e g0 g1 g2 g3 g4 g5).mpr h⟩
theorem JK {J : AL → Mem → Prop} (slots : List Nat) (h : B) (e : @withV _ (keepF f slots) ⟨fun f' => ∃ m', Thin m m' ∧ J f' m'⟩ = B := by simp only [zZ, reduceIte, Nat.reduceLT, Int.reduceToNat, Int.reduceLE, Int.reduceEq, Int.reduceLT, Nat.reduceEqDiff, Nat.reduceAdd, Nat.reduceSub, keepF]; rfl) : @JoinM f m ⟨J⟩ := ⟨slots, e.mpr h⟩
end
end Go.Proofs.YtfdijpacbhomjaaGreatDoor.Abs
namespace Go.Proofs.YtfdijpacbhomjaaGreatDoor
open Go.RowKit Abs
def dskC (q g : Nat) (d : Dsk) : List Value := [.slice (some ⟨g, 0, none⟩) d.old.length d.old.length, .map (some q), .int .i64 d.fuse, .bool d.dead]
structure DskAt (M : Mem) (p q g : Nat) (d : Dsk) : Prop where
  ok : d.Ok
  row : ∃ s, M.get p = some (.cells false s (dskC q g d))
  kv : M.get q = some (.kv false (ents d.last) d.clock)
  old : M.get g = some (.cells false 1 (d.old.map fun s => .string (str s)))
  pq : p ≠ q
  pg : p ≠ g
  qg : q ≠ g
theorem DskAt.same {M M' : Mem} {p q g : Nat} {d : Dsk} (h : DskAt M p q g d) (hs : ∀ b x, M.get b = some x → M'.get b = some x) : DskAt M' p q g d :=
  ⟨h.ok, h.row.imp fun _ hr => hs _ _ hr, hs _ _ h.kv, hs _ _ h.old, h.pq, h.pg, h.qg⟩
theorem DskAt.only {M M' : Mem} {p q g : Nat} {d : Dsk} (h : DskAt M p q g d) {l : List Nat} (hs : Only l M M') (hp : p ∉ l) (hq : q ∉ l) (hg : g ∉ l) : DskAt M' p q g d :=
  ⟨h.ok, h.row.imp fun _ hr => hs _ _ hp hr, hs _ _ hq h.kv, hs _ _ hg h.old, h.pq, h.pg, h.qg⟩
theorem DskAt.turn {M : Mem} {p q g : Nat} {d d' : Dsk} (h : DskAt M p q g d) (hok : d'.Ok) (ho : d'.old = d.old) (hl : d'.last = d.last) (hc : d'.clock = d.clock) (s : Nat) : DskAt (M.set p (some (.cells false s (dskC q g d')))) p q g d' := by
  obtain ⟨s0, hr⟩ := h.row
  exact ⟨hok, ⟨s, Mem.get_set_same hr _⟩, by rw [Mem.get_set_ne h.pq, hl, hc]; exact h.kv, by rw [Mem.get_set_ne h.pg, ho]; exact h.old, h.pq, h.pg, h.qg⟩
theorem DskAt.kvTurn {M : Mem} {p q g : Nat} {d : Dsk} (h : DskAt M p q g d) {L : LastL} {c : Nat} (hok : ({ d with last := L, clock := c } : Dsk).Ok) : DskAt (M.set q (some (.kv false (ents L) c))) p q g { d with last := L, clock := c } := by
  obtain ⟨s0, hr⟩ := h.row
  exact ⟨hok, ⟨s0, by rw [Mem.get_set_ne (Ne.symm h.pq)]; exact hr⟩, Mem.get_set_same h.kv _, by rw [Mem.get_set_ne h.qg]; exact h.old, h.pq, h.pg, h.qg⟩
def dp (p : Nat) : Value := .pointer (some ⟨p, 0, none⟩)
set_option maxRecDepth 100000 in
set_option maxHeartbeats 2000000 in
theorem may_spec (M : Mem) (p q g : Nat) (d : Dsk) (hd : DskAt M p q g d) (i : Int) :
    Abs.Spec Tryz.prog 143 [dp p, .int .i64 i] M fun u M' => u = .int .i64 (d.may i) ∧ M' = M := by
  refine Abs.Spec.walkM Tryz.func143 (by rfl) _ Tryz.results143 _ Tryz.ntmps143 (by simp [dp]) ?_
  intro hc hx k
  unfold dp
  obtain ⟨s, hr⟩ := hd.row
  unfold dskC at hr
  refine CW_seq (R0 ?_)
  refine CW_seq (CW_block (CW_seq (R1 @hr ?_)))
  refine CF (CW_seq (R1 @hr ?_))
  refine CW_cond d.dead (by rfl) (fun h => CW_seq (CW_region ?_)) (fun h => CW_seq (CW_region ?_))
  · refine S0 ?_
    refine T0 ?_
    exact ⟨M, Thin.refl _, by unfold Dsk.may; rw [if_pos h], rfl⟩
  have hn : (d.old.length : Int) ≤ 1024 := by have := hd.ok.n; omega
  have fin : ∀ b : Bool, b = decide (i < 0 ∨ (d.old.length : Int) ≤ i) → (if b = true then (10 : Int) else 0) = d.may i := fun b hb => by
    have e0 : d.may i = if i < 0 ∨ (d.old.length : Int) ≤ i then 10 else 0 := by unfold Dsk.may; rw [h]; rfl
    rw [e0, hb]
    by_cases e : i < 0 ∨ (d.old.length : Int) ≤ i <;> simp [e]
  cases q1 : decide (i < 0)
  · refine S2 @hr @q1 ?_
    refine CC (decide (i ≥ (d.old.length : Int))) (fun h2 => CW_seq (CW_region ?_)) (fun h2 => CW_skip ?_)
    · refine S0 ?_
      refine T0 ?_
      refine ⟨M, Thin.refl _, ?_, rfl⟩
      rw [← fin true (by have := of_decide_eq_true h2; simp; omega)]; rfl
    · refine S0 ?_
      refine CW_seq (R0 ?_)
      refine T0 ?_
      refine ⟨M, Thin.refl _, ?_, rfl⟩
      rw [← fin false (by have := of_decide_eq_false h2; have := of_decide_eq_false q1; simp; omega)]; rfl
  · refine S2 @hr @q1 ?_
    refine CW_cond true (by rfl) (fun h2 => CW_seq (CW_region ?_)) (fun h2 => by cases h2)
    refine S0 ?_
    refine T0 ?_
    refine ⟨M, Thin.refl _, ?_, rfl⟩
    rw [← fin true (by have := of_decide_eq_true q1; simp; omega)]; rfl
end Go.Proofs.YtfdijpacbhomjaaGreatDoor
namespace Go.Proofs.YtfdijpacbhomjaaGreatDoor
open Go.RowKit Abs
theorem next_dsk {m : Mem} {r q since last c : Nat} {seen : List Nat} {ro : Bool} {L : LastL} (hr : m.get r = some (.it false q since seen last)) (hq : m.get q = some (.kv ro (ents L) c)) (hc : ∀ x ∈ L, x.2.2 < since) (hl : since ≤ last) :
    aNext m (.pointer (some ⟨r, 0, none⟩)) = some fun v m' => (v = .tuple #[.bool false] ∧ m' = m ∧ aLeft (ents L) seen = []) ∨ ∃ e ∈ aLeft (ents L) seen, v = .tuple #[.bool true, e.key, e.val] ∧ m' = m.set r (some (.it false q since (seen ++ [e.born]) c)) := by
  unfold aNext
  simp only [hr, hq]
  rw [if_pos ⟨by
    rw [List.all_eq_true]
    intro e he
    unfold ents at he
    rw [List.mem_map] at he
    obtain ⟨x, hx, rfl⟩ := he
    simpa using hc x hx, hl⟩]
theorem entry_dsk {get : Nat → Option Blk} {r q since c : Nat} {seen : List Nat} {ro ro' : Bool} {L : LastL} {x : Nat × List UInt8 × Nat} (hr : get r = some (.it ro' q since (seen ++ [x.2.2]) c)) (hq : get q = some (.kv ro (ents L) c)) (hb : (L.map (·.2.2)).Nodup) (hx : x ∈ L) :
    aEntry get (.pointer (some ⟨r, 0, none⟩)) = some (.tuple #[.int .i64 (x.1 : Nat), .string (str x.2.1)]) := by
  unfold aEntry
  simp only [hr, hq, if_true, List.getLast?_concat, ents_find hb hx]
theorem syncV_size {E : Dsk} (h : E.Ok) (seen : List Nat) {s : List UInt8} (hs : s ∈ syncV E.old E.last seen) : s.length = 256 := by
  unfold syncV at hs
  rw [List.mem_mapIdx] at hs
  obtain ⟨i, hi, rfl⟩ := hs
  split
  · rename_i x hx
    exact (h.within x (List.mem_of_find?_eq_some hx)).2
  · exact h.size _ (List.getElem_mem hi)
theorem nodup_born {L : LastL} (h : (L.map (·.2.2)).Nodup) {x y : Nat × List UInt8 × Nat} (hx : x ∈ L) (hy : y ∈ L) (e : x.2.2 = y.2.2) : x = y := by
  induction L with
  | nil => cases hx
  | cons a L ih =>
    rw [List.map_cons, List.nodup_cons] at h
    rcases List.mem_cons.1 hx with rfl | hx' <;> rcases List.mem_cons.1 hy with rfl | hy'
    · rfl
    · exact absurd (List.mem_map.2 ⟨y, hy', e.symm⟩) h.1
    · exact absurd (List.mem_map.2 ⟨x, hx', e⟩) h.1
    · exact ih h.2 hx' hy'
end Go.Proofs.YtfdijpacbhomjaaGreatDoor
namespace Go.Proofs.YtfdijpacbhomjaaGreatDoor.Abs
open Go
theorem frame_init {n : Nat → Prop} {ι : Nat → Loc} {xs ys : List Value} {fn : Func} (hys : VRels n ι xs ys) : ARel n ι (aFrame fn xs) { tmps := ys.toArray ++ Array.replicate (fn.ntmps - ys.toArray.size) undef, defers := [] } := by
  refine ⟨rfl, ?_⟩
  simp only [Array.toList_append, Array.toList_replicate, List.size_toArray]
  rw [← hys.1]
  unfold aFrame
  refine VRels.append hys ⟨rfl, fun i x y hx hy => ?_⟩
  rw [hx] at hy
  cases hy
  have := List.mem_of_getElem? hx
  rw [List.mem_replicate] at this
  rw [this.2]
  exact undef_rel
theorem Spec.of_defer {P : Program} {k k' : FuncId} {fn fn' : Func} {c0 c2 c' : Code} {id : Nat} {o1 o2 : Oper} {t : Nat} {caps : Array Operand} {xs : List Value} {m : Mem} {R : Value → Mem → Prop}
    (hf : P.funcs[k]? = some fn) (hb : fn.body = some (.seq c0 (.seq (.region id #[o1, o2] false) c2)))
    (ho1 : o1.op = .makeFunc (.func k') #[] caps) (hd1 : o1.dst = some t) (hg1 : o1.guard = none) (ho2 : o2.op = .defer { callee := .value (.tmp t), args := #[], argTypes := #[] }) (hd2 : o2.dst = none) (hg2 : o2.guard = none)
    (he : entered P k' = true) (hf' : P.funcs[k']? = some fn') (hb' : fn'.body = some c')
    (h : AW P c0 (fun e a1 m1 => e = .normal ∧ ∃ l, evArgs a1 caps.toList = some l ∧ t < a1.length ∧
      ∀ D : Defs, @AW D P c2 (fun e a2 m2 => (e = .ret ∨ e = .normal) ∧ @AW defsNil P c' (fun e' a3 m3 => (e' = .ret ∨ e' = .normal) ∧ (∃ u, aAnswer P fn'.results.toList a3 m3 = some u) ∧ ∃ u, aAnswer P fn.results.toList a2 m3 = some u ∧ R u m3) (aFrame fn' l) m2)
        (a1.set t (.func (.func k') #[] l.toArray)) m1) (aFrame fn xs) m) : Spec P k xs m R := by
  intro ι w ys hys hr
  refine calls_of_wp_defers hf hb ?_
  refine wp_seq (wp_mono (h ι m w ι _ w (Step.refl _ _ _) (frame_init hys) hr) ?_)
  rintro e act w1 ⟨κ, a1, m1, ⟨rfl, l, hl, htl, h2⟩, ha, hr1, hs1⟩
  refine wp_seq (wp_region_list ?_)
  have hla := evArgs_rel ha hl
  obtain ⟨cs, hcs⟩ : ∃ cs, cs = caps.map act.eval := ⟨_, rfl⟩
  have hlc : VRels m1.Has κ l cs.toList := by rw [hcs, Array.toList_map]; exact hla
  have hty : act.tmps.size = a1.length := by have := ha.tmps.1; simpa using this.symm
  have hw : ∀ (o : Oper) (y : Nat → Option Bool), o.guard = none → Region.wanted o y = true := fun o y hg => by unfold Region.wanted; rw [hg]
  have run1 : (execOp act.eval o1).run P w1 = .ok (.value (.func (.func k') #[] cs)) w1 := by
    simp [execOp, ho1, hcs, Instr.makeFunc]
  obtain ⟨act1, hact1⟩ : ∃ act1, act1 = act.put (some t) (.func (.func k') #[] cs) := ⟨_, rfl⟩
  have heval : act1.eval (.tmp t) = .func (.func k') #[] cs := by
    rw [hact1]
    simp [Act.eval, Act.put, hty, htl]
  have run2 : (execOp act1.eval o2).run P w1 = .ok (.defer ⟨.fn (.func k') cs, #[]⟩) w1 := by
    unfold execOp
    rw [ho2]
    simp [resolve, heval, Deferred.ofValue]
  have hput : ({ act1 with defers := ⟨.fn (.func k') cs, #[]⟩ :: act1.defers } : Act).put o2.dst undef = { tmps := act1.tmps, defers := [⟨.fn (.func k') cs, #[]⟩] } := by
    have : act1.defers = [] := by rw [hact1]; exact ha.defers
    rw [hd2, this]
    rfl
  simp only [wpList]
  rw [if_pos (hw _ _ hg1)]
  left
  unfold Oper.wp
  rw [run1, Oper.upon_value, hd1, ← hact1]
  rw [if_pos (hw _ _ hg2)]
  left
  rw [run2, Oper.upon_defer, hput]
  -- what comes behind
  have ha1 : ARel m1.Has κ (a1.set t (.func (.func k') #[] l.toArray)) act1 := by
    rw [hact1]
    refine ha.put t (.func _ _ _ _ _ rfl (fun i x y hx => by simp at hx) ?_ fun i x y hx hy => ?_)
    · have := hlc.1; simpa using this
    · exact hlc.2 i x y (by simpa using hx) (by simpa using hy)
  have ha2 : @ARel ⟨[⟨.fn (.func k') cs, #[]⟩]⟩ m1.Has κ (a1.set t (.func (.func k') #[] l.toArray)) { tmps := act1.tmps, defers := [⟨.fn (.func k') cs, #[]⟩] } := @ARel.mk ⟨[⟨.fn (.func k') cs, #[]⟩]⟩ _ _ _ _ rfl ha1.tmps
  refine wp_mono (h2 ⟨[⟨.fn (.func k') cs, #[]⟩]⟩ κ m1 w1 κ _ w1 (Step.refl _ _ _) ha2 hr1) ?_
  rintro e act2 w2 ⟨μ, a2, m2, ⟨he2, haw⟩, hA2, hr2, hs2⟩
  have hdef : act2.defers = [⟨.fn (.func k') cs, #[]⟩] := @ARel.defers ⟨[⟨.fn (.func k') cs, #[]⟩]⟩ _ _ _ _ hA2
  have hinv : (invoke (.fn (.func k') cs) #[]).run P w2 = .ok (.enter k' cs) w2 := by
    unfold entered at he
    rw [hf'] at he
    simp only [Bool.and_eq_true, Bool.not_eq_true'] at he
    have hbn : fn'.body.isNone = false := by rw [hb']; rfl
    simp only [invoke, callFunc, Sem.run_bind, run_program, Result.andThen_ok, hf', he.2, hbn, Bool.false_eq_true, if_false, Array.empty_append]
    rfl
  have hlc2 : VRels m2.Has μ l cs.toList := hlc.mono hs2.grows hs2.at_
  have hleave : Leaves P fn act2.tmps (fun e w' => ∃ v v' κ m', R v m' ∧ e = .returned v' ∧ VRel m'.Has κ v v' ∧ Rel κ m' w' ∧ Step ι m w κ m' w') [⟨.fn (.func k') cs, #[]⟩] .returning w2 := by
    refine leaves_cons (by simp) hinv (CallsD.mono (callsD_of_wp (R := fun e w' => ∃ v', e = .returned v' ∧ ∃ u0, (results fn act2.tmps).run P w' = .ok u0 w' ∧ ∃ v v' κ m', R v m' ∧ Ending.returned u0 = .returned v' ∧ VRel m'.Has κ v v' ∧ Rel κ m' w' ∧ Step ι m w κ m' w') hf' hb' ?_) ?_)
    · have hfi := frame_init (fn := fn') hlc2
      rw [Array.toArray_toList] at hfi
      refine wp_mono (haw μ m2 w2 μ _ w2 (Step.refl _ _ _) hfi hr2) ?_
      rintro e act3 w3 ⟨ν, a3, m3, ⟨he3, ⟨u1, hu1⟩, u, hu, hR⟩, hA3, hr3, hs3⟩
      obtain ⟨v1, hv1, _⟩ := aAnswer_run hA3 hr3 hu1
      have hA2' : @ARel ⟨[⟨.fn (.func k') cs, #[]⟩]⟩ m3.Has ν a2 act2 := @ARel.mono ⟨[⟨.fn (.func k') cs, #[]⟩]⟩ _ _ _ _ hs3.grows hs3.at_ _ _ hA2
      obtain ⟨v2, hv2, hv3⟩ := @aAnswer_run _ _ _ ⟨[⟨.fn (.func k') cs, #[]⟩]⟩ _ _ _ _ _ hA2' hr3 hu
      have key : ∃ v, (results fn' act3.tmps).run P w3 = .ok v w3 ∧ ∃ v', Ending.returned v = .returned v' ∧ ∃ u0, (results fn act2.tmps).run P w3 = .ok u0 w3 ∧ ∃ v v' κ m', R v m' ∧ Ending.returned u0 = .returned v' ∧ VRel m'.Has κ v v' ∧ Rel κ m' w3 ∧ Step ι m w κ m' w3 :=
        ⟨v1, hv1, v1, rfl, v2, hv2, u, v2, ν, m3, hR, rfl, hv3, hr3, (hs1.trans hs2).trans hs3⟩
      rcases he3 with rfl | rfl
      · exact ⟨hA3.defers, key⟩
      · exact ⟨hA3.defers, key⟩
    · rintro e u' w' ⟨rfl, v', rfl, u0, hu0, hR⟩
      exact ⟨u0, hu0, hR⟩
  rcases he2 with rfl | rfl
  · show Leaves P fn act2.tmps _ act2.defers .returning w2
    rw [hdef]; exact hleave
  · show Leaves P fn act2.tmps _ act2.defers .returning w2
    rw [hdef]; exact hleave
end Go.Proofs.YtfdijpacbhomjaaGreatDoor.Abs
namespace Go.Proofs.YtfdijpacbhomjaaGreatDoor.Abs
open Go Go.RowKit
theorem sAnswer_spec {P : Program} {rs : List ResultVar} {n : Nat} {f : AL} {a : List Value} {m : Mem} (h1 : Knows n f a) {v : Value} (hv : sAnswer P rs f m = some v) : aAnswer P rs a m = some v := by
  unfold sAnswer at hv
  unfold aAnswer
  split at hv <;> first | (cases hv; done) | skip
  · rename_i v0 hv0; cases hv; simp only [sRes_spec h1 _ _ hv0]
  · rename_i l hne hl
    cases hv
    simp only [sRes_spec h1 _ _ hl]
theorem knows_frame {xs : List Value} {fn : Func} (hx : xs.length ≤ fn.ntmps) : Knows fn.ntmps (alOf 0 xs) (aFrame fn xs) := by
  refine ⟨by simp [aFrame]; omega, fun t v hv => ?_⟩
  obtain ⟨_, h2⟩ := alOf_get xs 0 t v hv
  unfold aFrame
  rw [List.getElem?_append, if_pos]
  · exact h2
  · exact (List.getElem?_eq_some_iff.1 h2).1
def dEnd (P : Program) (c' : Code) (n' : Nat) (l : List Value) (rs : List ResultVar) (R : Value → Mem → Prop) (e : Exit) (f2 : AL) (m2 : Mem) : Prop :=
  (e = .ret ∨ e = .normal) ∧ @SW defsNil P n' c' (fun e' _ m3 => (e' = .ret ∨ e' = .normal) ∧ ∃ u, sAnswer P rs f2 m3 = some u ∧ R u m3) (alOf 0 l) m2
theorem Spec.walk_defer {P : Program} {k k' : FuncId} {fn fn' : Func} {c0 c2 c' : Code} {id : Nat} {o1 o2 : Oper} {t : Nat} {caps : Array Operand} {xs : List Value} {m : Mem} {R : Value → Mem → Prop}
    (hf : P.funcs[k]? = some fn) (hb : fn.body = some (.seq c0 (.seq (.region id #[o1, o2] false) c2)))
    (ho1 : o1.op = .makeFunc (.func k') #[] caps) (hd1 : o1.dst = some t) (hg1 : o1.guard = none) (ho2 : o2.op = .defer { callee := .value (.tmp t), args := #[], argTypes := #[] }) (hd2 : o2.dst = none) (hg2 : o2.guard = none)
    (he : entered P k' = true) (hf' : P.funcs[k']? = some fn') (hb' : fn'.body = some c') (hr' : fn'.results = #[]) (rs : Array ResultVar) (hr : fn.results = rs) (n : Nat) (hn : fn.ntmps = n) (hx : xs.length ≤ n) (htn : t < n) (n' : Nat) (hn' : fn'.ntmps = n')
    (h : SW P n c0 (fun e f1 m1 => e = .normal ∧ ∃ l, sArgs (AL.look f1) caps.toList = some l ∧ l.length ≤ n' ∧
      ∀ D : Defs, @SW D P n c2 (dEnd P c' n' l rs.toList R) ((t, .func (.func k') #[] l.toArray) :: f1) m1) (alOf 0 xs) m) : Spec P k xs m R := by
  subst hr; subst hn; subst hn'
  refine Spec.of_defer hf hb ho1 hd1 hg1 ho2 hd2 hg2 he hf' hb' ((h _ (knows_frame hx)).mono ?_)
  rintro e a1 m1 ⟨f1, k1, rfl, l, hl, hll, h2⟩
  have close : ∀ e f2 a2 m2, Knows fn.ntmps f2 a2 → dEnd P c' fn'.ntmps l fn.results.toList R e f2 m2 →
      (e = .ret ∨ e = .normal) ∧ AW P c' (fun e' a3 m3 => (e' = .ret ∨ e' = .normal) ∧ (∃ u, aAnswer P fn'.results.toList a3 m3 = some u) ∧ ∃ u, aAnswer P fn.results.toList a2 m3 = some u ∧ R u m3) (aFrame fn' l) m2 := by
    rintro e f2 a2 m2 k2 ⟨he2, h3⟩
    refine ⟨he2, (h3 _ (knows_frame hll)).mono ?_⟩
    rintro e' a3 m3 ⟨f3, k3, he3, u, hu, hR⟩
    refine ⟨he3, ⟨.tuple #[], by rw [hr']; rfl⟩, u, sAnswer_spec k2 hu, hR⟩
  refine ⟨rfl, l, ?_, by rw [k1.1]; exact htn, fun D => ?_⟩
  · rw [sArgs_eq] at hl
    exact fArgs_spec k1.look _ hl
  · have := h2 D _ (k1.put htn (.func (.func k') #[] l.toArray))
    refine @AW.mono D _ _ _ _ _ _ this ?_
    rintro e a2 m2 ⟨f2, k2, h3⟩
    exact close e f2 a2 m2 k2 h3
end Go.Proofs.YtfdijpacbhomjaaGreatDoor.Abs
namespace Go.Proofs.YtfdijpacbhomjaaGreatDoor
open Go.ChangeShapes Go.WideShapes Go.ChangeAt Go.RowKit
structure Header where
  id : Int
  salt : ByteArray
  n : Int
  bytes : Int
  raw : Int
  root : ByteArray
  tag : ByteArray
def Header.cells (h : Header) : List Value := [.int .i64 h.id, .string h.salt, .int .i64 h.n, .int .i64 h.bytes, .int .i64 h.raw, .string h.root, .string h.tag]
theorem cellsInt : Tryz.prog.cellsOf 3 = 1 := by kernel_rfl
theorem cellsStr : Tryz.prog.cellsOf 9 = 1 := by kernel_rfl
theorem cellsHeader : Tryz.prog.cellsOf 81 = 7 := by kernel_rfl
end Go.Proofs.YtfdijpacbhomjaaGreatDoor
namespace Go.Proofs.YtfdijpacbhomjaaGreatDoor
open Go.RowKit
def Header.val (h : Header) : Value := .agg #[.int .i64 h.id, .string h.salt, .int .i64 h.n, .int .i64 h.bytes, .int .i64 h.raw, .string h.root, .string h.tag]
end Go.Proofs.YtfdijpacbhomjaaGreatDoor
