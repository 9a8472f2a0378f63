/-
  mac.Tag's contract, for the abstract machine.
  Sums and tags, reckoned fast by the kernel: each number is a literal at once.
  Tags and leaves, for the machine as a function.
  The keys of the examples' secret, reckoned.
  The walk of epoch.Next.
  The program's types in memory.
  The walks of header: its fields, its check.
  The walks of header: its check.
  The walks of header: it is verified.
  The walk of header.Take.
  The walk of header.Take: what is no header.
  The walks of the document's answer for layer 1: numbers as bytes, and back; lists of texts.
  What header.Take answers, as a header and a number.
-/
import Derived.Test.YtkkleedpakcfgaaGreatDoorTids11
import Derived.Test.YtkkleedpakcfgaaGreatDoorTids01
import Derived.Test.YtkkleedpakcfgaaGreatDoorTids10
import Derived.Test.YtkkleedpakcfgaaGreatDoorTids07
import Derived.Test.YtkkleedpakcfgaaGreatDoorTids09
import Derived.Test.YtkkleedpakcfgaaGreatDoorTids03
import Derived.KernelRfl
import Derived.Deep.RegionHeld3
import Derived.Deep.CutRange
set_option linter.all false
--LONG
/-
  epoch.Next, for the machine as a function.
-/
namespace Go.Proofs.YtkkleedpakcfgaaGreatDoor
open Go.RowKit Abs
noncomputable def cellB (m : FMem) (b s n : Nat) : Bool := match m.get b with
  | some (.cells false r [.int .i64 (.ofNat k)]) => Nat.beq r s && Nat.beq k n
  | _ => false
theorem cellB_spec {m : FMem} {b s n : Nat} (h : cellB m b s n = true) : m.get b = some (.cells false s [.int .i64 (n : Nat)]) := by
  unfold cellB at h
  split at h <;> first | (cases h; done) | skip
  rename_i r k hk
  rw [Bool.and_eq_true] at h
  rw [hk, Nat.eq_of_beq_eq_true h.1, Nat.eq_of_beq_eq_true h.2]
  rfl
noncomputable def cellsN (s1 s2 n : Nat) (b : Nat) (v : Nat) (m : FMem) : Bool := cellB m b s1 v && cellB m (Nat.succ b) s2 n
noncomputable def isOK (r : Option (Value × FMem)) : Option FMem := match r with
  | some (.int .i64 (.ofNat 0), m) => some m
  | _ => none
theorem isOK_spec {r : Option (Value × FMem)} {m : FMem} (h : isOK r = some m) : r = some (.int .i64 0, m) := by
  unfold isOK at h
  split at h <;> first | (cases h; done) | skip
  cases h; rfl
noncomputable def lastOK (r : Option (Value × FMem)) : Option (Nat × FMem) := match r with
  | some (.tuple ⟨[.int .i64 (.ofNat n), .int .i64 (.ofNat 0)]⟩, m) => some (n, m)
  | _ => none
theorem lastOK_spec {r : Option (Value × FMem)} {n : Nat} {m : FMem} (h : lastOK r = some (n, m)) : r = some (.tuple #[.int .i64 (n : Nat), .int .i64 0], m) := by
  unfold lastOK at h
  split at h <;> first | (cases h; done) | skip
  cases h; rfl
noncomputable def textOK (r : Option (Value × FMem)) : Option (ByteArray × FMem) := match r with
  | some (.string t, m) => some (t, m)
  | _ => none
theorem textOK_spec {r : Option (Value × FMem)} {t : ByteArray} {m : FMem} (h : textOK r = some (t, m)) : r = some (.string t, m) := by
  unfold textOK at h
  split at h <;> first | (cases h; done) | skip
  cases h; rfl
noncomputable def nextF (s1 s2 : Nat) (T : Caller) (p i : Nat) (m : FMem) : Option (Value × FMem) :=
  match lastOK (T 200 [dp p, .int .i64 (.ofNat i)] ((m.push (.cells false s1 [.int .i64 (.ofNat 0)])).push (.cells false s2 [.int .i64 (.ofNat 0)]))) with
  | some (n, m2) => bif cellsN s1 s2 0 m.n 0 m2 && Nat.ble n 4294967294 then
    forceV 1 (.int .i64 (.ofNat (Nat.succ n))) fun v =>
    match textOK (T 201 [v] (m2.put m.n (some (.cells false s1 [v])))) with
    | some (t, m3) => match isOK (T 61 [dp p, .int .i64 (.ofNat i), .string t] m3) with
      | some m4 => bif cellsN s1 s2 0 m.n (Nat.succ n) m4 then
        match isOK (T 62 [dp p] m4) with
        | some m5 => bif cellsN s1 s2 0 m.n (Nat.succ n) m5 then some (.tuple ⟨[v, .int .i64 (.ofNat 0)]⟩, m5) else none
        | none => none
        else none
      | none => none
    | none => none
    else none
  | none => none
noncomputable def nextT (T S : Caller) : Caller := fun j ys m => bif Nat.beq j 134 then (match ys with
  | [.pointer (some ⟨p, 0, none⟩), .int .i64 (.ofNat i)] => nextF (aStride Tryz.prog 3) (aStride Tryz.prog 23) T p i m
  | _ => none) else S j ys m
set_option maxRecDepth 100000 in
set_option maxHeartbeats 4000000 in
theorem nextT_good {T S : Caller} (hT : Abs.Good Tryz.prog T) (hS : Abs.Good Tryz.prog S) : Abs.Good Tryz.prog (nextT T S) := fun j ys f v f' h m hm => by
  unfold nextT at h
  cases hk : Nat.beq j 134 with
  | false => rw [hk] at h; exact hS j ys f v f' h m hm
  | true =>
    rw [hk] at h
    have ek := Nat.eq_of_beq_eq_true hk
    subst ek
    simp only [cond_true] at h
    split at h <;> first | (cases h; done) | skip
    rename_i p i
    generalize hs1 : aStride Tryz.prog 3 = s1 at h
    generalize hs2 : aStride Tryz.prog 23 = s2 at h
    unfold nextF at h
    split at h <;> first | (cases h; done) | skip
    rename_i n f2 hL
    replace hL := lastOK_spec hL
    obtain ⟨bb, hbb⟩ : ∃ b, (cellsN s1 s2 0 f.n 0 f2 && Nat.ble n 4294967294) = b := ⟨_, rfl⟩
    rw [hbb] at h
    cases bb <;> first | (cases h; done) | skip
    rw [cond_true, forceV_eq] at h
    split at h <;> first | (cases h; done) | skip
    rename_i t f3 hX
    replace hX := textOK_spec hX
    split at h <;> first | (cases h; done) | skip
    rename_i f4 hW
    replace hW := isOK_spec hW
    obtain ⟨b4, hb4⟩ : ∃ b, cellsN s1 s2 0 f.n (Nat.succ n) f4 = b := ⟨_, rfl⟩
    rw [hb4] at h
    cases b4 <;> first | (cases h; done) | skip
    rw [cond_true] at h
    split at h <;> first | (cases h; done) | skip
    rename_i f5 hY
    replace hY := isOK_spec hY
    obtain ⟨b5, hb5⟩ : ∃ b, cellsN s1 s2 0 f.n (Nat.succ n) f5 = b := ⟨_, rfl⟩
    rw [hb5] at h
    cases b5 <;> first | (cases h; done) | skip
    rw [cond_true] at h
    cases h
    unfold cellsN at hbb hb4 hb5
    simp only [Bool.and_eq_true] at hbb hb4 hb5
    obtain ⟨⟨c1, c2⟩, c3⟩ := hbb
    replace c1 := cellB_spec c1
    replace c2 := cellB_spec c2
    replace c3 := Nat.le_of_ble_eq_true c3
    have d1 := cellB_spec hb4.1
    have d2 := cellB_spec hb4.2
    have e1 := cellB_spec hb5.1
    have e2 := cellB_spec hb5.2
    obtain ⟨bn, hbn⟩ : ∃ bn, bn = f.n := ⟨_, rfl⟩
    rw [← hbn] at c1 c2 d1 d2 e1 e2 hX
    have hsz : m.size = bn := by rw [hbn]; exact hm.1
    have r1 := (hm.push (.cells false s1 [.int .i64 0])).push (.cells false s2 [.int .i64 0])
    obtain ⟨M2, r2, S2, x2⟩ := hT _ _ _ _ _ hL _ r1
    have g1 := r2.2.2 _ _ c1
    have g2 := r2.2.2 _ _ c2
    have r2' := r2.put c1 (some (.cells false s1 [.int .i64 (.ofNat (Nat.succ n))]))
    obtain ⟨M3, r3, S3, x3⟩ := hT _ _ _ _ _ hX _ r2'
    obtain ⟨M4, r4, S4, x4⟩ := hT _ _ _ _ _ hW _ r3
    have g3 := r4.2.2 _ _ d1
    have g4 := r4.2.2 _ _ d2
    obtain ⟨M5, r5, S5, x5⟩ := hT _ _ _ _ _ hY _ r4
    have g5 := r5.2.2 _ _ e1
    have g6 := r5.2.2 _ _ e2
    have xx : Ext m M5 := ((((Ext.push m s1 _).trans (Ext.push _ s2 _)).trans x2).trans (Ext.set g1 _ rfl)).trans ((x3.trans x4).trans x5)
    refine ⟨M5, r5, ?_, xx⟩
    refine Abs.Spec.walk_defer (k' := 199) Tryz.func134 (by rfl) rfl rfl rfl rfl rfl rfl (by kernel_rfl) Tryz.func199 (by rfl) Tryz.results199 _ Tryz.results134 _ Tryz.ntmps134 (by simp [Tryz.ntmps134]) (by simp [Tryz.ntmps134]) _ Tryz.ntmps199 ?_
    refine SW_region ?_
    simp only [zS, reduceIte, Nat.reduceLT, Int.reduceToNat, Int.reduceLE, Int.reduceEq, Int.reduceLT, Nat.reduceEqDiff, Nat.reduceAdd, zDk, pd_eql, pd_neq, pd_eql0, pd_neq0, zZ, hs1, hs2]
    obtain ⟨N0, hN0⟩ : ∃ N0, N0 = (m.push (.cells false s1 [.int .i64 0])).push (.cells false s2 [.int .i64 0]) := ⟨_, rfl⟩
    obtain ⟨be, hbe⟩ : ∃ be, be = m.size + 1 := ⟨_, rfl⟩
    have h0n : N0.get bn = some (.cells false s1 [.int .i64 0]) := by rw [hN0, ← hsz, Mem.get_push_old (by rw [Mem.size_push]; omega), Mem.get_push_new]
    have h0e : N0.get be = some (.cells false s2 [.int .i64 0]) := by
      have := Mem.get_push_new (m.push (.cells false s1 [.int .i64 0])) (.cells false s2 [.int .i64 0])
      rw [Mem.size_push] at this
      rw [hN0, hbe]; exact this
    have ebe : Nat.succ bn = be := by rw [hbe, hsz]
    rw [ebe] at c2 d2 e2 g2 g4 g6
    rw [Mem.size_push, ← hN0, ← hbe, hsz]
    refine ⟨_, rfl, by show 2 ≤ 4; decide, ?_⟩
    generalize hQ : dEnd Tryz.prog _ _ _ _ _ = Q
    have close : ∀ (f2 : AL), AL.get f2 4 = some (.pointer (some ⟨bn, 0, none⟩)) → AL.get f2 5 = some (.pointer (some ⟨be, 0, none⟩)) → Q .ret f2 M5 := fun f2 h4 h5 => by
      rw [← hQ]
      have l1 : aLoad Tryz.prog M5 3 (.pointer (some ⟨bn, 0, none⟩)) = some (.int .i64 (Nat.succ n : Nat)) := by simp only [aLoad_g, zDk, pd_eql, pd_neq, pd_eql0, pd_neq0, g5]; rfl
      have l2 : aLoad Tryz.prog M5 23 (.pointer (some ⟨be, 0, none⟩)) = some (.int .i64 0) := by simp only [aLoad_g, zDk, pd_eql, pd_neq, pd_eql0, pd_neq0, g6]; rfl
      have hans : sAnswer Tryz.prog [.cell 4 3, .cell 5 23] f2 M5 = some (.tuple #[.int .i64 (Nat.succ n : Nat), .int .i64 0]) := by simp only [sAnswer, sAnswer.sRes, h4, h5, l1, l2]
      refine ⟨.inl rfl, SW_seq (SW_region ?_)⟩
      simp only [zS, reduceIte, Nat.reduceLT, Int.reduceToNat, Int.reduceLE, Int.reduceEq, Int.reduceLT, Nat.reduceEqDiff, Nat.reduceAdd, zDk, pd_eql, pd_neq, pd_eql0, pd_neq0, zZ, g6]
      refine SW_cond false (by rfl) (fun h => by cases h) (fun _ => SW_skip ?_)
      simp only [zS, reduceIte, Nat.reduceLT, Int.reduceToNat, Int.reduceLE, Int.reduceEq, Int.reduceLT, Nat.reduceEqDiff, Nat.reduceAdd, zDk, pd_eql, pd_neq, pd_eql0, pd_neq0, zZ]
      exact ⟨.inr trivial, _, hans, rfl⟩
    clear hQ
    have q00 : ((0 : Int) != 0) = false := rfl
    have w1 : IntKind.i64.wrap ((n : Int) + 1) = ((Nat.succ n : Nat) : Int) := by rw [wri (by omega) (by omega)]; rfl
    have hgt : decide (((Nat.succ n : Nat) : Int) > 4294967295) = false := decide_eq_false (by omega)
    have sne : ∀ (m : Mem) (x : Option Blk), (m.set bn x).get be = m.get be := fun m x => Mem.get_set_ne (by omega) x
    have sen : ∀ (m : Mem) (x : Option Blk), (m.set be x).get bn = m.get bn := fun m x => Mem.get_set_ne (by omega) x
    intro D
    refine SW_seq (SW_seq (SW_region ?_))
    simp only [zS, reduceIte, Nat.reduceLT, Int.reduceToNat, Int.reduceLE, Int.reduceEq, Int.reduceLT, Nat.reduceEqDiff, Nat.reduceAdd, zDk, pd_eql, pd_neq, pd_eql0, pd_neq0, zZ]
    rw [← hN0] at S2
    refine ⟨by kernel_rfl, _, S2, ?_⟩
    rintro _ Y9 ⟨rfl, y9⟩; replace y9 := y9.symm; subst y9
    obtain ⟨A, hA⟩ : ∃ A, A = (M2.set bn (some (.cells false s1 [.int .i64 (n : Int)]))).set be (some (.cells false s2 [.int .i64 0])) := ⟨_, rfl⟩
    have a1 : A.get bn = some (.cells false s1 [.int .i64 (n : Int)]) := by rw [hA, sen]; exact Mem.get_set_same g1 _
    have a2 : A.get be = some (.cells false s2 [.int .i64 0]) := by rw [hA]; exact Mem.get_set_same (by rw [sne]; exact g2) _
    have eA : A.set bn (some (.cells false s1 [.int .i64 (Nat.succ n : Nat)])) = M2.set bn (some (.cells false s1 [.int .i64 (Nat.succ n : Nat)])) := by
      have e : (M2.set bn (some (.cells false s1 [.int .i64 (n : Int)]))).set be (some (.cells false s2 [.int .i64 0])) = M2.set bn (some (.cells false s1 [.int .i64 (n : Int)])) := Mem.set_self (by rw [sne]; exact g2)
      rw [hA, e, Mem.set_set]
    simp only [zS, reduceIte, Nat.reduceLT, Int.reduceToNat, Int.reduceLE, Int.reduceEq, Int.reduceLT, Nat.reduceEqDiff, Nat.reduceAdd, zDk, pd_eql, pd_neq, pd_eql0, pd_neq0, zZ, g1, sne, g2]
    rw [← hA]
    refine SW_seq (SW_region ?_)
    simp only [zS, reduceIte, Nat.reduceLT, Int.reduceToNat, Int.reduceLE, Int.reduceEq, Int.reduceLT, Nat.reduceEqDiff, Nat.reduceAdd, zDk, pd_eql, pd_neq, pd_eql0, pd_neq0, zZ, a2]
    refine SW_cond false (by rfl) (fun h => by cases h) (fun _ => SW_skip ?_)
    simp only [zS, reduceIte, Nat.reduceLT, Int.reduceToNat, Int.reduceLE, Int.reduceEq, Int.reduceLT, Nat.reduceEqDiff, Nat.reduceAdd, zDk, pd_eql, pd_neq, pd_eql0, pd_neq0, zZ]
    refine SW_seq (SW_seq (SW_region ?_))
    simp only [zS, reduceIte, Nat.reduceLT, Int.reduceToNat, Int.reduceLE, Int.reduceEq, Int.reduceLT, Nat.reduceEqDiff, Nat.reduceAdd, zDk, pd_eql, pd_neq, pd_eql0, pd_neq0, zZ, a1, w1]
    rw [eA]
    have b1 : (M2.set bn (some (.cells false s1 [.int .i64 (Nat.succ n : Nat)]))).get bn = some (.cells false s1 [.int .i64 (Nat.succ n : Nat)]) := Mem.get_set_same g1 _
    refine SW_seq (SW_region ?_)
    simp only [zS, reduceIte, Nat.reduceLT, Int.reduceToNat, Int.reduceLE, Int.reduceEq, Int.reduceLT, Nat.reduceEqDiff, Nat.reduceAdd, zDk, pd_eql, pd_neq, pd_eql0, pd_neq0, zZ, b1]
    refine SW_cond false (by rw [hgt]; rfl) (fun h => by cases h) (fun _ => SW_skip ?_)
    simp only [zS, reduceIte, Nat.reduceLT, Int.reduceToNat, Int.reduceLE, Int.reduceEq, Int.reduceLT, Nat.reduceEqDiff, Nat.reduceAdd, zDk, pd_eql, pd_neq, pd_eql0, pd_neq0, zZ]
    refine SW_seq (SW_seq (SW_region ?_))
    simp only [zS, reduceIte, Nat.reduceLT, Int.reduceToNat, Int.reduceLE, Int.reduceEq, Int.reduceLT, Nat.reduceEqDiff, Nat.reduceAdd, zDk, pd_eql, pd_neq, pd_eql0, pd_neq0, zZ, b1]
    refine ⟨by kernel_rfl, _, S3, ?_⟩
    rintro _ Y9 ⟨rfl, y9⟩; replace y9 := y9.symm; subst y9
    simp only [zS, reduceIte, Nat.reduceLT, Int.reduceToNat, Int.reduceLE, Int.reduceEq, Int.reduceLT, Nat.reduceEqDiff, Nat.reduceAdd, zDk, pd_eql, pd_neq, pd_eql0, pd_neq0, zZ]
    refine ⟨by kernel_rfl, _, S4, ?_⟩
    rintro _ Y9 ⟨rfl, y9⟩; replace y9 := y9.symm; subst y9
    have eB : M4.set be (some (.cells false s2 [.int .i64 0])) = M4 := Mem.set_self g4
    simp only [zS, reduceIte, Nat.reduceLT, Int.reduceToNat, Int.reduceLE, Int.reduceEq, Int.reduceLT, Nat.reduceEqDiff, Nat.reduceAdd, zDk, pd_eql, pd_neq, pd_eql0, pd_neq0, zZ, g4]
    rw [eB]
    refine SW_seq (SW_region ?_)
    simp only [zS, reduceIte, Nat.reduceLT, Int.reduceToNat, Int.reduceLE, Int.reduceEq, Int.reduceLT, Nat.reduceEqDiff, Nat.reduceAdd, zDk, pd_eql, pd_neq, pd_eql0, pd_neq0, zZ, g4]
    refine SW_cond false (by rfl) (fun h => by cases h) (fun _ => SW_skip ?_)
    simp only [zS, reduceIte, Nat.reduceLT, Int.reduceToNat, Int.reduceLE, Int.reduceEq, Int.reduceLT, Nat.reduceEqDiff, Nat.reduceAdd, zDk, pd_eql, pd_neq, pd_eql0, pd_neq0, zZ]
    refine SW_seq (SW_draw6L hmix 2 [0] (by kernel_rfl) ?_)
    simp only [zS, reduceIte, Nat.reduceLT, Int.reduceToNat, Int.reduceLE, Int.reduceEq, Int.reduceLT, Nat.reduceEqDiff, Nat.reduceAdd, zDk, pd_eql, pd_neq, pd_eql0, pd_neq0, zZ, g3, sQB6]
    refine ⟨by kernel_rfl, _, S5, ?_⟩
    rintro _ Y9 ⟨rfl, y9⟩; replace y9 := y9.symm; subst y9
    have eC : M5.set bn (some (.cells false s1 [.int .i64 (Nat.succ n : Nat)])) = M5 := Mem.set_self g5
    have eD : M5.set be (some (.cells false s2 [.int .i64 0])) = M5 := Mem.set_self g6
    simp only [zS, reduceIte, Nat.reduceLT, Int.reduceToNat, Int.reduceLE, Int.reduceEq, Int.reduceLT, Nat.reduceEqDiff, Nat.reduceAdd, zDk, pd_eql, pd_neq, pd_eql0, pd_neq0, zZ, g5, g6, idleOK, sne, Option.bind_some]
    refine ⟨⟨.int .i64 (Nat.succ n : Nat), by rw [g3]; rfl, rfl⟩, ?_⟩
    rw [eC, eD]
    refine SW_ret ?_
    exact close _ rfl rfl
end Go.Proofs.YtkkleedpakcfgaaGreatDoor
namespace Go.Proofs.YtkkleedpakcfgaaGreatDoor
open Go.RowKit Abs
theorem mtag_spec (key : ByteArray) (v : Value) (xs : List ByteArray) (m : Mem) (hd : Rd m 1 v xs.length (xs.map .string)) (hk : key.size ≤ 140737488355200) (hlen : xs.length ≤ maxLen) (hsz : (joined xs).length ≤ 140737488355000) :
    Abs.Spec Tryz.prog 97 [.string key, v] m fun u M => u = .string (str (Sha.tag key.data.toList (joined xs))) ∧ M = m :=
  Spec.of_below rfl fun ι w ys hy hr => by
    obtain ⟨a', b', rfl, ha, hb⟩ := vrels_two hy
    cases ha
    exact tag_any key b' xs w (Rd.strs hr hd hb) hk hlen hsz
end Go.Proofs.YtkkleedpakcfgaaGreatDoor
namespace Go.Proofs.YtkkleedpakcfgaaGreatDoor.Sha
open Go Go.Proofs.YtkkleedpakcfgaaGreatDoor.Abs
def rotF (x n m : Nat) : Nat := Nat.lor (Nat.shiftRight x n) (Nat.mod (Nat.shiftLeft x m) 4294967296)
def s0F (x : Nat) : Nat := Nat.xor (Nat.xor (rotF x 7 25) (rotF x 18 14)) (Nat.shiftRight x 3)
def s1F (x : Nat) : Nat := Nat.xor (Nat.xor (rotF x 17 15) (rotF x 19 13)) (Nat.shiftRight x 10)
def big0F (a : Nat) : Nat := Nat.xor (Nat.xor (rotF a 2 30) (rotF a 13 19)) (rotF a 22 10)
def big1F (e : Nat) : Nat := Nat.xor (Nat.xor (rotF e 6 26) (rotF e 11 21)) (rotF e 25 7)
def chF (e f g : Nat) : Nat := Nat.xor (Nat.land e f) (Nat.land (Nat.sub 4294967295 e) g)
def majF (a b c : Nat) : Nat := Nat.xor (Nat.xor (Nat.land a b) (Nat.land a c)) (Nat.land b c)
noncomputable def nthN (l : List Nat) : Nat → Nat := List.rec (motive := fun _ => Nat → Nat) (fun _ => 0) (fun x _ ih i => Nat.rec (motive := fun _ => Nat) x (fun j _ => ih j) i) l
theorem nthN_eq : ∀ (l : List Nat) (i : Nat), nthN l i = l.getD i 0
  | [], _ => rfl
  | _ :: _, 0 => rfl
  | x :: r, i + 1 => by
    show nthN r i = _
    rw [nthN_eq r i, List.getD_cons_succ]
noncomputable def nthB (l : List UInt8) : Nat → Nat := List.rec (motive := fun _ => Nat → Nat) (fun _ => 0) (fun x _ ih i => Nat.rec (motive := fun _ => Nat) x.toNat (fun j _ => ih j) i) l
theorem nthB_eq : ∀ (l : List UInt8) (i : Nat), nthB l i = (l.getD i 0).toNat
  | [], _ => rfl
  | _ :: _, 0 => rfl
  | x :: r, i + 1 => by
    show nthB r i = _
    rw [nthB_eq r i, List.getD_cons_succ]
noncomputable def wordF (l : List UInt8) (i : Nat) : Nat := Nat.add (Nat.add (Nat.add (Nat.mul (nthB l (Nat.mul 4 i)) 16777216) (Nat.mul (nthB l (Nat.add (Nat.mul 4 i) 1)) 65536)) (Nat.mul (nthB l (Nat.add (Nat.mul 4 i) 2)) 256)) (nthB l (Nat.add (Nat.mul 4 i) 3))
theorem wordF_eq (l : List UInt8) (i : Nat) : wordF l i = beWord l i := by
  unfold wordF beWord
  simp only [nthB_eq]
  rfl
section
variable {R : Type}
noncomputable def firstF (l : List UInt8) (k : List Nat → R) (is : List Nat) : List Nat → R := List.rec (motive := fun _ => List Nat → R) k (fun i _ ih acc => forceN (wordF l i) fun w => ih (w :: acc)) is
theorem firstF_eq (l : List UInt8) (k : List Nat → R) : ∀ (is acc : List Nat), firstF l k is acc = k ((is.map (beWord l)).reverse ++ acc)
  | [], acc => rfl
  | i :: is, acc => by
    have e : firstF l k (i :: is) acc = forceN (wordF l i) fun w => firstF l k is (w :: acc) := rfl
    rw [e, forceN_eq, firstF_eq l k is, wordF_eq]
    simp
noncomputable def nextF (W : List Nat) (k : Nat → R) : R := forceN (nthN W 14) fun x => forceN (nthN W 1) fun y => forceN (Nat.mod (Nat.add (Nat.add (Nat.add (nthN W 15) (s0F x)) (nthN W 6)) (s1F y)) 4294967296) k
noncomputable def moreF (k : List Nat → R) (n : Nat) : List Nat → R := Nat.rec (motive := fun _ => List Nat → R) k (fun _ ih W => nextF W fun w => ih (w :: W)) n
theorem getD_rev {l : List Nat} {i : Nat} (h : i < l.length) : l.reverse.getD i 0 = l.getD (l.length - 1 - i) 0 := by
  simp only [List.getD, List.getElem?_reverse h]
theorem nextF_eq (b : Bytes) (t : Nat) (ht : 16 ≤ t) (k : Nat → R) : nextF (sched b t).reverse k = k (nextW (sched b t) t) := by
  have hl := sched_length b t
  unfold nextF
  simp only [forceN_eq, nthN_eq]
  rw [getD_rev (by omega), getD_rev (by omega), getD_rev (by omega), getD_rev (by omega), hl]
  rw [show t - 1 - 14 = t - 15 by omega, show t - 1 - 1 = t - 2 by omega, show t - 1 - 15 = t - 16 by omega, show t - 1 - 6 = t - 7 by omega]
  rfl
theorem moreF_eq (b : Bytes) (k : List Nat → R) : ∀ (n t : Nat), 16 ≤ t → moreF k n (sched b t).reverse = k (sched b (t + n)).reverse
  | 0, t, _ => rfl
  | n + 1, t, ht => by
    have e : moreF k (n + 1) (sched b t).reverse = nextF (sched b t).reverse fun w => moreF k n (w :: (sched b t).reverse) := rfl
    have e2 : (sched b (t + 1)).reverse = nextW (sched b t) t :: (sched b t).reverse := by
      show ((sched b t) ++ [if t < 16 then beWord b t else nextW (sched b t) t]).reverse = _
      rw [if_neg (by omega)]; simp
    rw [e, nextF_eq b t ht, ← e2, moreF_eq b k n (t + 1) (by omega), show t + 1 + n = t + (n + 1) by omega]
noncomputable def revF (k : List Nat → R) (l : List Nat) : List Nat → R := List.rec (motive := fun _ => List Nat → R) k (fun x _ ih acc => ih (x :: acc)) l
theorem revF_eq (k : List Nat → R) : ∀ (l acc : List Nat), revF k l acc = k (l.reverse ++ acc)
  | [], acc => rfl
  | x :: l, acc => by
    have e : revF k (x :: l) acc = revF k l (x :: acc) := rfl
    rw [e, revF_eq k l]; simp
theorem sched16 (b : Bytes) : sched b 16 = [0, 1, 2, 3, 4, 5, 6, 7, 8, 9, 10, 11, 12, 13, 14, 15].map (beWord b) := rfl
abbrev F8 (R : Type) := Nat → Nat → Nat → Nat → Nat → Nat → Nat → Nat → R
noncomputable def roundF (k : F8 R) (Ks : List Nat) : List Nat → F8 R := List.rec (motive := fun _ => List Nat → F8 R) (fun _ => k)
  (fun kk _ ih W a b c d e f g h => List.rec (motive := fun _ => R) (k a b c d e f g h) (fun w W' _ =>
    forceN (Nat.mod (Nat.add (Nat.add (Nat.add (Nat.add h (big1F e)) (chF e f g)) kk) w) 4294967296) fun t1 => forceN (Nat.mod (Nat.add d t1) 4294967296) fun e' =>
    forceN (Nat.mod (Nat.add t1 (Nat.mod (Nat.add (big0F a) (majF a b c)) 4294967296)) 4294967296) fun a' => ih W' a' a b c e' e f g) W) Ks
def foldR : List Nat → List Nat → W8 → W8
  | kk :: Ks, w :: W, v => foldR Ks W (turn v kk w)
  | _, _, v => v
theorem roundF_eq (k : F8 R) : ∀ (Ks W : List Nat) (v : W8), roundF k Ks W v.a v.b v.c v.d v.e v.f v.g v.h = k (foldR Ks W v).a (foldR Ks W v).b (foldR Ks W v).c (foldR Ks W v).d (foldR Ks W v).e (foldR Ks W v).f (foldR Ks W v).g (foldR Ks W v).h
  | [], W, v => by cases W <;> rfl
  | kk :: Ks, [], v => rfl
  | kk :: Ks, w :: W, v => by
    have ih := roundF_eq k Ks W (turn v kk w)
    have e : foldR (kk :: Ks) (w :: W) v = foldR Ks W (turn v kk w) := rfl
    rw [e, ← ih]
    have e2 : ∀ a b c d e f g h, roundF k (kk :: Ks) (w :: W) a b c d e f g h = forceN (Nat.mod (Nat.add (Nat.add (Nat.add (Nat.add h (big1F e)) (chF e f g)) kk) w) 4294967296) fun t1 => forceN (Nat.mod (Nat.add d t1) 4294967296) fun e' =>
      forceN (Nat.mod (Nat.add t1 (Nat.mod (Nat.add (big0F a) (majF a b c)) 4294967296)) 4294967296) fun a' => roundF k Ks W a' a b c e' e f g := fun _ _ _ _ _ _ _ _ => rfl
    rw [e2]
    simp only [forceN_eq]
    rfl
theorem foldR_snoc : ∀ (Ks W : List Nat) (v : W8) (a b : Nat), Ks.length = W.length → foldR (Ks ++ [a]) (W ++ [b]) v = turn (foldR Ks W v) a b
  | [], [], v, a, b, _ => rfl
  | x :: Ks, y :: W, v, a, b, h => by
    show foldR (Ks ++ [a]) (W ++ [b]) (turn v x y) = _
    rw [foldR_snoc Ks W _ a b (by simpa using h)]
    rfl
  | [], y :: W, v, a, b, h => by cases h
  | x :: Ks, [], v, a, b, h => by cases h
theorem take_snoc {l : List Nat} {n : Nat} (h : n < l.length) : l.take (n + 1) = l.take n ++ [l.getD n 0] := by
  rw [List.take_add_one, List.getElem?_eq_getElem h]
  simp [List.getD, List.getElem?_eq_getElem h]
theorem foldR_rounds (v : W8) (w : List Nat) (hw : w.length = 64) : ∀ n, n ≤ 64 → foldR (K.take n) (w.take n) v = rounds v w n
  | 0, _ => by simp [foldR, rounds]
  | n + 1, h => by
    have hK : K.length = 64 := rfl
    rw [take_snoc (by omega), take_snoc (by omega), foldR_snoc _ _ _ _ _ (by simp [hw, hK]), foldR_rounds v w hw n (by omega)]
    rfl
noncomputable def mixF (l : List UInt8) (k : F8 R) (a b c d e f g h : Nat) : R :=
  firstF l (fun acc => moreF (fun W => revF (fun W => roundF (fun a' b' c' d' e' f' g' h' =>
    forceN (Nat.mod (Nat.add a a') 4294967296) fun a => forceN (Nat.mod (Nat.add b b') 4294967296) fun b => forceN (Nat.mod (Nat.add c c') 4294967296) fun c => forceN (Nat.mod (Nat.add d d') 4294967296) fun d =>
    forceN (Nat.mod (Nat.add e e') 4294967296) fun e => forceN (Nat.mod (Nat.add f f') 4294967296) fun f => forceN (Nat.mod (Nat.add g g') 4294967296) fun g => forceN (Nat.mod (Nat.add h h') 4294967296) fun h => k a b c d e f g h) K W a b c d e f g h) W []) 48 acc) [0, 1, 2, 3, 4, 5, 6, 7, 8, 9, 10, 11, 12, 13, 14, 15] []
theorem mixF_eq (l : List UInt8) (k : F8 R) (v : W8) : mixF l k v.a v.b v.c v.d v.e v.f v.g v.h = k (mix v l).a (mix v l).b (mix v l).c (mix v l).d (mix v l).e (mix v l).f (mix v l).g (mix v l).h := by
  have hr : foldR K (sched l 64) v = rounds v (sched l 64) 64 := by
    have := foldR_rounds v (sched l 64) (sched_length _ _) 64 (Nat.le_refl _)
    rwa [List.take_of_length_le (show K.length ≤ 64 from Nat.le_of_eq rfl), List.take_of_length_le (show (sched l 64).length ≤ 64 from by rw [sched_length]; exact Nat.le_refl _)] at this
  unfold mixF
  rw [firstF_eq, List.append_nil, ← sched16, moreF_eq l _ 48 16 (Nat.le_refl _), revF_eq, List.append_nil, List.reverse_reverse, roundF_eq, hr]
  have em : mix v l = v.plus (rounds v (sched l 64) 64) := rfl
  rw [em]
  generalize rounds v (sched l 64) 64 = r
  simp only [forceN_eq]
  rfl
noncomputable def dropF (n : Nat) : List UInt8 → List UInt8 := Nat.rec (motive := fun _ => List UInt8 → List UInt8) (fun l => l) (fun _ ih l => List.rec (motive := fun _ => List UInt8) [] (fun _ r _ => ih r) l) n
theorem dropF_eq : ∀ (n : Nat) (l : List UInt8), dropF n l = l.drop n
  | 0, l => rfl
  | n + 1, [] => rfl
  | n + 1, x :: r => dropF_eq n r
noncomputable def blocksF (k : F8 R) (n : Nat) : List UInt8 → F8 R := Nat.rec (motive := fun _ => List UInt8 → F8 R) (fun _ => k)
  (fun _ ih l a b c d e f g h => mixF l (fun a b c d e f g h => Abs.spine (dropF 64 l) fun r => ih r a b c d e f g h) a b c d e f g h) n
theorem beWord_take (l : List UInt8) (i : Nat) (h : i < 16) : beWord (l.take 64) i = beWord l i := by
  unfold beWord
  have key : ∀ j, j < 64 → (l.take 64).getD j 0 = l.getD j 0 := fun j hj => by simp only [List.getD, List.getElem?_take, if_pos hj]
  rw [key _ (by omega), key _ (by omega), key _ (by omega), key _ (by omega)]
theorem sched_take64 (l : List UInt8) : ∀ t, sched (l.take 64) t = sched l t
  | 0 => rfl
  | t + 1 => by
    show sched (l.take 64) t ++ [if t < 16 then beWord (l.take 64) t else nextW (sched (l.take 64) t) t] = sched l t ++ [if t < 16 then beWord l t else nextW (sched l t) t]
    rw [sched_take64 l t]
    by_cases h : t < 16
    · rw [if_pos h, if_pos h, beWord_take l t h]
    · rw [if_neg h, if_neg h]
theorem blocksF_eq (k : F8 R) : ∀ (n : Nat) (l : List UInt8) (v : W8), blocksF k n l v.a v.b v.c v.d v.e v.f v.g v.h = k (blocksN v l n).a (blocksN v l n).b (blocksN v l n).c (blocksN v l n).d (blocksN v l n).e (blocksN v l n).f (blocksN v l n).g (blocksN v l n).h
  | 0, l, v => rfl
  | n + 1, l, v => by
    have e : ∀ a b c d e f g h, blocksF k (n + 1) l a b c d e f g h = mixF l (fun a b c d e f g h => Abs.spine (dropF 64 l) fun r => blocksF k n r a b c d e f g h) a b c d e f g h := fun _ _ _ _ _ _ _ _ => rfl
    have em : mix v (l.take 64) = mix v l := by unfold mix; rw [sched_take64]
    have eb : blocksN v l (n + 1) = blocksN (mix v (l.take 64)) (l.drop 64) n := rfl
    rw [e, mixF_eq, Abs.spine_eq, dropF_eq, blocksF_eq k n (l.drop 64) (mix v l), eb, em]
end
noncomputable def lenF (l : List UInt8) : Nat := List.rec (motive := fun _ => Nat) 0 (fun _ _ n => Nat.succ n) l
theorem lenF_eq : ∀ (l : List UInt8), lenF l = l.length
  | [] => rfl
  | _ :: r => congrArg Nat.succ (lenF_eq r)
noncomputable def sumF (l : List UInt8) : List UInt8 := forceN (lenF l) fun n => forceL forceB (l ++ tail n) fun L => forceN (Nat.div (lenF L) 64) fun b => blocksF (fun a b c d e f g h => (W8.mk a b c d e f g h).bytes) b L 0x6a09e667 0xbb67ae85 0x3c6ef372 0xa54ff53a 0x510e527f 0x9b05688c 0x1f83d9ab 0x5be0cd19
theorem sumF_eq (l : List UInt8) : sumF l = sum l := by
  unfold sumF
  simp only [forceN_eq, forceL_eq (forceB_eq), lenF_eq]
  exact blocksF_eq (fun a b c d e f g h => (W8.mk a b c d e f g h).bytes) ((l ++ tail l.length).length / 64) (l ++ tail l.length) start
noncomputable def tagF (k m : List UInt8) : List UInt8 := forceL forceB (pad k 0x36 ++ m) fun x => forceL forceB (sumF x) fun s => forceL forceB (pad k 0x5c ++ s) fun y => sumF y
theorem tagF_eq (k m : List UInt8) : tagF k m = tag k m := by
  unfold tagF tag
  simp only [forceL_eq (forceB_eq), sumF_eq]
end Go.Proofs.YtkkleedpakcfgaaGreatDoor.Sha
namespace Go.Proofs.YtkkleedpakcfgaaGreatDoor
open Go.RowKit Abs
def allStr : List Value → Option (List ByteArray)
  | [] => some []
  | .string s :: r => match allStr r with
    | some l => some (s :: l)
    | none => none
  | _ => none
theorem allStr_spec : ∀ {l : List Value} {xs : List ByteArray}, allStr l = some xs → l = xs.map .string
  | [], xs, h => by cases h; rfl
  | x :: r, xs, h => by
    unfold allStr at h
    split at h <;> first | (cases h; done) | skip
    · rename_i e; cases e
    · rename_i s r' e
      cases e
      split at h <;> first | (cases h; done) | skip
      rename_i l hl
      cases h
      rw [allStr_spec hl]
      rfl
noncomputable def tagK (key : ByteArray) (n c : Nat) (cs : List Value) (m : FMem) : Option (Value × FMem) := match allStr cs with
  | some xs => bif Nat.beq n xs.length then bif Nat.ble n c then bif Nat.ble c 1000 then bif Nat.ble key.size 100000 then bif Nat.ble (joined xs).length 100000 then
      forceV 2 (.string (str (Sha.tagF key.data.toList (joined xs)))) fun v => some (v, m) else none else none else none else none else none
  | none => none
noncomputable def tagM (m : FMem) (key : ByteArray) (b n c : Nat) : Option (Value × FMem) := match m.get b with
  | some (.cells _ 1 cs) => tagK key n c cs m
  | _ => none
noncomputable def tagT (T : Caller) : Caller := fun j ys m => bif Nat.beq j 97 then (match ys with
  | [.string key, .slice (some ⟨b, 0, none⟩) n c] => tagM m key b n c
  | _ => none) else T j ys m
theorem tagT_good {T : Caller} (hT : Abs.Good Tryz.prog T) : Abs.Good Tryz.prog (tagT T) := fun j ys f v f' h m hm => by
  unfold tagT at h
  cases hk : Nat.beq j 97 with
  | false => rw [hk] at h; exact hT j ys f v f' h m hm
  | true =>
    rw [hk] at h
    have ek := Nat.eq_of_beq_eq_true hk
    subst ek
    simp only [cond_true] at h
    split at h <;> first | (cases h; done) | skip
    rename_i key b n c
    unfold tagM at h
    split at h <;> first | (cases h; done) | skip
    rename_i ro cs hg
    unfold tagK at h
    split at h <;> first | (cases h; done) | skip
    rename_i xs hx
    cases h1 : Nat.beq n xs.length <;> rw [h1] at h <;> first | (cases h; done) | skip
    cases h2 : Nat.ble n c <;> rw [h2] at h <;> first | (cases h; done) | skip
    cases h3 : Nat.ble c 1000 <;> rw [h3] at h <;> first | (cases h; done) | skip
    cases h4 : Nat.ble key.size 100000 <;> rw [h4] at h <;> first | (cases h; done) | skip
    cases h5 : Nat.ble (joined xs).length 100000 <;> rw [h5] at h <;> first | (cases h; done) | skip
    simp only [cond_true] at h
    rw [forceV_eq, Sha.tagF_eq] at h
    cases h
    have h1 := Nat.eq_of_beq_eq_true h1
    have h2 := Nat.le_of_ble_eq_true h2
    have h3 := Nat.le_of_ble_eq_true h3
    have h4 := Nat.le_of_ble_eq_true h4
    have h5 := Nat.le_of_ble_eq_true h5
    subst h1
    have hcs := allStr_spec hx
    have hmx : c ≤ maxLen := Nat.le_trans h3 (by decide)
    exact ⟨m, hm, mtag_spec key _ xs m ⟨_, c, rfl, by simp, h2, hmx, (fun e => by cases e), fun p hp => by cases hp; exact ⟨b, rfl, fun _ => ⟨ro, by rw [← hcs]; exact hm.2.2 _ _ hg⟩⟩⟩ (by omega) (by omega) (by omega), Ext.refl _⟩
noncomputable def alsoT (T S : Caller) : Caller := fun k ys m => match T k ys m with
  | some r => some r
  | none => S k ys m
theorem alsoT_good {P : Program} {T S : Caller} (hT : Abs.Good P T) (hS : Abs.Good P S) : Abs.Good P (alsoT T S) := fun k ys f v f' h m hm => by
  unfold alsoT at h
  split at h
  · rename_i r hr; cases h; exact hT _ _ _ _ _ hr m hm
  · exact hS _ _ _ _ _ h m hm
end Go.Proofs.YtkkleedpakcfgaaGreatDoor
namespace Go.Proofs.YtkkleedpakcfgaaGreatDoor.Ex
open Go Go.RowKit Abs
set_option maxRecDepth 100000
theorem exp32 (k info : List UInt8) : Sha.expand k info 32 = Sha.tag k (info ++ [1]) := by
  have : Sha.expand k info 32 = (Sha.tag k (info ++ [1])).take 32 := rfl
  rw [this, List.take_of_length_le (by rw [Sha.tag_length]; decide)]
theorem t1 : Sha.tag [115, 97, 108, 116, 4, 5, 6, 7, 8, 9, 10, 11, 12, 13, 14, 15] [115] = [210, 33, 204, 149, 64, 6, 110, 50, 181, 190, 233, 117, 129, 93, 13, 240, 166, 8, 112, 126, 23, 196, 194, 78, 71, 233, 165, 134, 188, 56, 73, 156] := by kernel_rfl
theorem enc : Sha.tag [210, 33, 204, 149, 64, 6, 110, 50, 181, 190, 233, 117, 129, 93, 13, 240, 166, 8, 112, 126, 23, 196, 194, 78, 71, 233, 165, 134, 188, 56, 73, 156] (Sha.forBytes ++ [1]) = [175, 34, 229, 180, 255, 21, 238, 119, 141, 240, 208, 107, 121, 237, 247, 0, 95, 110, 181, 1, 138, 51, 88, 151, 210, 77, 244, 6, 35, 6, 210, 24] := by kernel_rfl
theorem mac : Sha.tag [210, 33, 204, 149, 64, 6, 110, 50, 181, 190, 233, 117, 129, 93, 13, 240, 166, 8, 112, 126, 23, 196, 194, 78, 71, 233, 165, 134, 188, 56, 73, 156] (Sha.forTags ++ [1]) = [214, 162, 101, 238, 90, 251, 113, 98, 220, 230, 155, 211, 124, 230, 232, 216, 172, 222, 249, 211, 122, 121, 111, 213, 3, 163, 52, 47, 8, 133, 108, 177] := by kernel_rfl
theorem t2 : Sha.tag [] [115] = [251, 35, 176, 83, 125, 246, 242, 109, 123, 108, 252, 0, 101, 236, 127, 49, 117, 221, 108, 93, 218, 165, 72, 52, 155, 112, 78, 7, 31, 32, 150, 34] := by kernel_rfl
theorem head : Sha.tag [251, 35, 176, 83, 125, 246, 242, 109, 123, 108, 252, 0, 101, 236, 127, 49, 117, 221, 108, 93, 218, 165, 72, 52, 155, 112, 78, 7, 31, 32, 150, 34] (Sha.forHeads ++ [1]) = [99, 92, 220, 172, 47, 209, 125, 152, 245, 28, 243, 212, 52, 67, 4, 67, 159, 212, 28, 67, 33, 199, 164, 24, 178, 211, 127, 217, 175, 83, 194, 69] := by kernel_rfl
theorem enc2 : Sha.tag [251, 35, 176, 83, 125, 246, 242, 109, 123, 108, 252, 0, 101, 236, 127, 49, 117, 221, 108, 93, 218, 165, 72, 52, 155, 112, 78, 7, 31, 32, 150, 34] (Sha.forBytes ++ [1]) = [102, 151, 195, 209, 36, 59, 64, 121, 44, 129, 251, 219, 255, 16, 143, 176, 45, 108, 41, 96, 32, 27, 91, 92, 148, 223, 69, 112, 176, 143, 58, 128] := by kernel_rfl
theorem mac2 : Sha.tag [251, 35, 176, 83, 125, 246, 242, 109, 123, 108, 252, 0, 101, 236, 127, 49, 117, 221, 108, 93, 218, 165, 72, 52, 155, 112, 78, 7, 31, 32, 150, 34] (Sha.forTags ++ [1]) = [153, 121, 251, 214, 174, 168, 78, 219, 245, 108, 4, 250, 108, 209, 204, 52, 129, 125, 172, 88, 142, 91, 144, 90, 115, 121, 220, 77, 181, 125, 251, 107] := by kernel_rfl
def keys1 : Value := .agg #[.string (str [175, 34, 229, 180, 255, 21, 238, 119, 141, 240, 208, 107, 121, 237, 247, 0, 95, 110, 181, 1, 138, 51, 88, 151, 210, 77, 244, 6, 35, 6, 210, 24]), .string (str [214, 162, 101, 238, 90, 251, 113, 98, 220, 230, 155, 211, 124, 230, 232, 216, 172, 222, 249, 211, 122, 121, 111, 213, 3, 163, 52, 47, 8, 133, 108, 177]), .string (str [99, 92, 220, 172, 47, 209, 125, 152, 245, 28, 243, 212, 52, 67, 4, 67, 159, 212, 28, 67, 33, 199, 164, 24, 178, 211, 127, 217, 175, 83, 194, 69])]
def keys2 : Value := .agg #[.string (str [102, 151, 195, 209, 36, 59, 64, 121, 44, 129, 251, 219, 255, 16, 143, 176, 45, 108, 41, 96, 32, 27, 91, 92, 148, 223, 69, 112, 176, 143, 58, 128]), .string (str [153, 121, 251, 214, 174, 168, 78, 219, 245, 108, 4, 250, 108, 209, 204, 52, 129, 125, 172, 88, 142, 91, 144, 90, 115, 121, 220, 77, 181, 125, 251, 107]), .string (str [99, 92, 220, 172, 47, 209, 125, 152, 245, 28, 243, 212, 52, 67, 4, 67, 159, 212, 28, 67, 33, 199, 164, 24, 178, 211, 127, 217, 175, 83, 194, 69])]
theorem keys1_eq : keysV [115] [115, 97, 108, 116, 4, 5, 6, 7, 8, 9, 10, 11, 12, 13, 14, 15] = keys1 := by
  simp only [keysV, Sha.encKey, Sha.macKey, Sha.headKey, exp32, t1, t2, enc, mac, head]; rfl
theorem keys2_eq : keysV [115] [] = keys2 := by
  simp only [keysV, Sha.encKey, Sha.macKey, Sha.headKey, exp32, t2, enc2, mac2, head]; rfl
def salt : List UInt8 := [115, 97, 108, 116, 4, 5, 6, 7, 8, 9, 10, 11, 12, 13, 14, 15]
theorem keys_at (a b : List UInt8) (h1 : a.length ≤ 1000) (h2 : b.length ≤ 1000) : Known Tryz.prog 19 [.string (str a), .string (str b)] (keysV a b) := fun _ =>
  Abs.Spec.of_flat (by simp [flat]) rfl fun w => keys_any (str a) (str b) w (by rw [str_size]; omega) (by rw [str_size]; omega)
theorem keys1_known : Known Tryz.prog 19 [.string (str [115]), .string (str salt)] keys1 := by
  have := keys_at [115] salt (by decide) (by decide)
  rw [show keysV [115] salt = keys1 from keys1_eq] at this
  exact this
theorem keys2_known : Known Tryz.prog 19 [.string (str [115]), .string (str [])] keys2 := by
  have := keys_at [115] [] (by decide) (by decide)
  rw [keys2_eq] at this
  exact this
end Go.Proofs.YtkkleedpakcfgaaGreatDoor.Ex
namespace Go.Proofs.YtkkleedpakcfgaaGreatDoor
open Go.ChangeShapes Go.WideShapes Go.ChangeAt Go.RowKit
structure Header where
  id : Int
  salt : ByteArray
  n : Int
  bytes : Int
  raw : Int
  root : ByteArray
  tag : ByteArray
end Go.Proofs.YtkkleedpakcfgaaGreatDoor
