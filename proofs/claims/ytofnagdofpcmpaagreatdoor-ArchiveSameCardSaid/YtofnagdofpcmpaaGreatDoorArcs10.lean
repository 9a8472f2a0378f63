/-
  DERIVED: THE SHELF's CONTRACTS AT THIS DUMP, IN PLAIN WORDS (tools/lay-plain.mjs out of 'TryzShelf.lean', which tools/lay-shelf.mjs wrote): THE SAME DECLARATIONS UNDER THE SAME NAMES: 'import', 'namespace', 'open', 'def', 'theorem' AND NOTHING ELSE: no command of the shelf's: FOR A HAND-IN. Each laying: the table of numbers ('.._ren') and one theorem, a field a fact of the dump's own or the kernel's comparison; each contract: ONE APPLICATION.
  The library's contracts (of worlds), for the abstract machine: how they are turned; Itoa.
  The library's contract for what stands ahead of a text, for the abstract machine.
  The library's contracts that disks ask for, for the abstract machine.
  Loads, stores, addresses, new blocks of the types that a disk's world has.
  Drawn regions in which several operations write memory, one behind the other; what stands between, and what the first of them does not wait for, looks at none.
-/
import Derived.Shelf.Strings.Builder1
import Derived.Shelf.Strings.Builder2
import Derived.Shelf.Strings.OnBuilder
import Derived.Shelf.Strings.Trim
import Derived.Shelf.Small.Utf8
import Derived.Shelf.Small.Strs
import Derived.Shelf.Small.Wraps
import Derived.Shelf.Strings.BuilderF
import Derived.Shelf.Strings.BuilderK
import Derived.Shelf.Strings.Builder2Cap
import Derived.Shelf.Strings.Search1
import Derived.Shelf.Strings.Search2
import Derived.Shelf.Strings.Search3
import Derived.Shelf.Strings.Cut
import Derived.Shelf.LaysM
import Derived.Shelf.Strings.Shaped
import Derived.Shelf.Strings.Prefix
import Derived.Shelf.Strings.Runes
import Derived.Shelf.Strings.AsciiSet
import Derived.Shelf.Bits.Mul64
import Derived.Shelf.Strings.Repeat
import Derived.Shelf.Unicode.DecodeSlow
import Derived.Shelf.Strings.BuilderCap
import Derived.Test.YtofnagdofpcmpaaGreatDoorProg
import Derived.Test.YtofnagdofpcmpaaGreatDoorArcs09
import Derived.Lib.Strings
import Derived.Lib.TrimByte
import Derived.Test.YtofnagdofpcmpaaGreatDoorArcs07
set_option linter.all false
namespace Go.Proofs
open Go.Shelf
def Tryz.lays106_ren : Go.Shelf.Ren := ⟨fun | 106 => 118 | 213 => 155 | 265 => 176 | n => n, fun | 9 => 9 | 3 => 3 | n => n, fun | n => n⟩
theorem Tryz.lays106 : Go.Proofs.Lays.n106 Tryz.prog Tryz.lays106_ren := {
  mixed := by kernel_rfl
  f106 := Tryz.func118.trans (congrArg some (by kernel_rfl))
  f213 := Tryz.func155.trans (congrArg some (by kernel_rfl))
  f265 := Tryz.func176.trans (congrArg some (by kernel_rfl))
  t3 := Tryz.underlying3
  a3 := Tryz.isAgg3
  z3 := Tryz.sizeOf3
  v3 := Tryz.zeroValue3
  t9 := Tryz.underlying9
  a9 := Tryz.isAgg9
  z9 := Tryz.sizeOf9
  v9 := Tryz.zeroValue9 }
open Go.RowKit in
theorem Tryz.strings_Compare (a b : ByteArray) (w : World) :
    Calls Tryz.prog 118 #[.string a, .string b] w fun e w' => e = .returned (.int .i64 (Lib.compareBytes a.data.toList b.data.toList)) ∧ w' = w := Any.strings_Compare Tryz.lays106 a b w
def Tryz.lays144_ren : Go.Shelf.Ren := ⟨fun | 144 => 116 | 143 => 152 | 219 => 174 | 217 => 160 | 225 => 136 | 224 => 135 | 267 => 193 | 266 => 182 | 314 => 202 | n => n, fun | 9 => 9 | 4 => 4 | 3 => 3 | 5 => 5 | 46 => 53 | 146 => 85 | 51 => 84 | n => n, fun | 1 => 0 | n => n⟩
theorem Tryz.lays144 : Go.Proofs.Lays.n144 Tryz.prog Tryz.lays144_ren := {
  mixed := by kernel_rfl
  f143 := Tryz.func152.trans (congrArg some (by kernel_rfl))
  f144 := Tryz.func116.trans (congrArg some (by kernel_rfl))
  f217 := Tryz.func160.trans (congrArg some (by kernel_rfl))
  f219 := Tryz.func174.trans (congrArg some (by kernel_rfl))
  f224 := Tryz.func135.trans (congrArg some (by kernel_rfl))
  f225 := Tryz.func136.trans (congrArg some (by kernel_rfl))
  f266 := Tryz.func182.trans (congrArg some (by kernel_rfl))
  f267 := Tryz.func193.trans (congrArg some (by kernel_rfl))
  f314 := Tryz.func202.trans (congrArg some (by kernel_rfl))
  t3 := Tryz.underlying3
  a3 := Tryz.isAgg3
  z3 := Tryz.sizeOf3
  v3 := Tryz.zeroValue3
  t4 := Tryz.underlying4
  a4 := Tryz.isAgg4
  z4 := Tryz.sizeOf4
  v4 := Tryz.zeroValue4
  t5 := Tryz.underlying5
  a5 := Tryz.isAgg5
  z5 := Tryz.sizeOf5
  v5 := Tryz.zeroValue5
  t9 := Tryz.underlying9
  a9 := Tryz.isAgg9
  z9 := Tryz.sizeOf9
  v9 := Tryz.zeroValue9
  t46 := Tryz.underlying53
  a46 := Tryz.isAgg53
  z46 := Tryz.sizeOf53
  v46 := Tryz.zeroValue53
  t51 := Tryz.underlying84
  a51 := Tryz.isAgg84
  z51 := Tryz.sizeOf84
  v51 := Tryz.zeroValue84
  t146 := Tryz.underlying85
  a146 := Tryz.isAgg85
  z146 := Tryz.sizeOf85
  v146 := Tryz.zeroValue85
  g1 := by kernel_rfl }
open Go.RowKit Go.Lib in
theorem Tryz.strings_Contains_one (s : ByteArray) (c : UInt8) (w : World) :
    Calls Tryz.prog 116 #[.string s, .string ⟨#[c]⟩] w fun e w' => e = .returned (.bool (decide (0 ≤ Lib.indexByte s.data.toList c))) ∧ w' = w := Any.strings_Contains_one Tryz.lays144 s c w
def Tryz.lays145_ren : Go.Shelf.Ren := ⟨fun | 145 => 154 | 220 => 175 | 219 => 174 | 217 => 160 | 225 => 136 | 224 => 135 | 267 => 193 | 266 => 182 | 314 => 202 | n => n, fun | 9 => 9 | 4 => 4 | 59 => 204 | 3 => 3 | 5 => 5 | 46 => 53 | 146 => 85 | 51 => 84 | n => n, fun | 1 => 0 | n => n⟩
theorem Tryz.lays145 : Go.Proofs.Lays.n145 Tryz.prog Tryz.lays145_ren := {
  mixed := by kernel_rfl
  f145 := Tryz.func154.trans (congrArg some (by kernel_rfl))
  f217 := Tryz.func160.trans (congrArg some (by kernel_rfl))
  f219 := Tryz.func174.trans (congrArg some (by kernel_rfl))
  f220 := Tryz.func175.trans (congrArg some (by kernel_rfl))
  f224 := Tryz.func135.trans (congrArg some (by kernel_rfl))
  f225 := Tryz.func136.trans (congrArg some (by kernel_rfl))
  f266 := Tryz.func182.trans (congrArg some (by kernel_rfl))
  f267 := Tryz.func193.trans (congrArg some (by kernel_rfl))
  f314 := Tryz.func202.trans (congrArg some (by kernel_rfl))
  t3 := Tryz.underlying3
  a3 := Tryz.isAgg3
  z3 := Tryz.sizeOf3
  v3 := Tryz.zeroValue3
  t4 := Tryz.underlying4
  a4 := Tryz.isAgg4
  z4 := Tryz.sizeOf4
  v4 := Tryz.zeroValue4
  t5 := Tryz.underlying5
  a5 := Tryz.isAgg5
  z5 := Tryz.sizeOf5
  v5 := Tryz.zeroValue5
  t9 := Tryz.underlying9
  a9 := Tryz.isAgg9
  z9 := Tryz.sizeOf9
  v9 := Tryz.zeroValue9
  t46 := Tryz.underlying53
  a46 := Tryz.isAgg53
  z46 := Tryz.sizeOf53
  v46 := Tryz.zeroValue53
  t51 := Tryz.underlying84
  a51 := Tryz.isAgg84
  z51 := Tryz.sizeOf84
  v51 := Tryz.zeroValue84
  t59 := Tryz.underlying204
  a59 := Tryz.isAgg204
  z59 := Tryz.sizeOf204
  v59 := Tryz.zeroValue204
  t146 := Tryz.underlying85
  a146 := Tryz.isAgg85
  z146 := Tryz.sizeOf85
  v146 := Tryz.zeroValue85
  g1 := by kernel_rfl }
open Go.RowKit Go.Lib in
theorem Tryz.strings_Cut (s sep : ByteArray) (m : Int) (w : World) (hs : s.size < 4294967281) (hm : w.cell? ⟨0, 0, none⟩ = some (.int .i64 m)) :
    Calls Tryz.prog 154 #[.string s, .string sep] w fun e w' => e = .returned (.tuple #[.string ⟨(Lib.cut s.data.toList sep.data.toList).1.toArray⟩, .string ⟨(Lib.cut s.data.toList sep.data.toList).2.1.toArray⟩, .bool (Lib.cut s.data.toList sep.data.toList).2.2]) ∧ ∃ n, w' = w.drewN n := Any.strings_Cut Tryz.lays145 s sep m w hs hm
def Tryz.lays105_ren : Go.Shelf.Ren := ⟨fun | 105 => 15 | 212 => 23 | 99 => 24 | 165 => 25 | 166 => 26 | 170 => 27 | 169 => 28 | 263 => 46 | 264 => 47 | 206 => 48 | 240 => 49 | 241 => 50 | 276 => 88 | 277 => 89 | n => n, fun | 9 => 9 | 3 => 3 | 4 => 4 | 20 => 20 | 0 => 0 | 46 => 53 | 109 => 54 | 5 => 5 | 72 => 59 | 76 => 63 | 51 => 84 | 146 => 85 | 53 => 87 | 148 => 88 | 70 => 57 | 37 => 41 | 75 => 62 | 127 => 90 | 164 => 128 | 80 => 66 | n => n, fun | n => n⟩
theorem Tryz.lays105 : Go.Proofs.Lays.n105 Tryz.prog Tryz.lays105_ren := {
  mixed := by kernel_rfl
  f99 := Tryz.func24.trans (congrArg some (by kernel_rfl))
  f105 := Tryz.func15.trans (congrArg some (by kernel_rfl))
  f165 := Tryz.func25.trans (congrArg some (by kernel_rfl))
  f166 := Tryz.func26.trans (congrArg some (by kernel_rfl))
  f169 := Tryz.func28.trans (congrArg some (by kernel_rfl))
  f170 := Tryz.func27.trans (congrArg some (by kernel_rfl))
  f206 := Tryz.func48.trans (congrArg some (by kernel_rfl))
  f212 := Tryz.func23.trans (congrArg some (by kernel_rfl))
  f240 := Tryz.func49.trans (congrArg some (by kernel_rfl))
  f241 := Tryz.func50.trans (congrArg some (by kernel_rfl))
  f263 := Tryz.func46.trans (congrArg some (by kernel_rfl))
  f264 := Tryz.func47.trans (congrArg some (by kernel_rfl))
  f276 := Tryz.func88.trans (congrArg some (by kernel_rfl))
  f277 := Tryz.func89.trans (congrArg some (by kernel_rfl))
  t0 := Tryz.underlying0
  a0 := Tryz.isAgg0
  z0 := Tryz.sizeOf0
  v0 := Tryz.zeroValue0
  t3 := Tryz.underlying3
  a3 := Tryz.isAgg3
  z3 := Tryz.sizeOf3
  v3 := Tryz.zeroValue3
  t4 := Tryz.underlying4
  a4 := Tryz.isAgg4
  z4 := Tryz.sizeOf4
  v4 := Tryz.zeroValue4
  t5 := Tryz.underlying5
  a5 := Tryz.isAgg5
  z5 := Tryz.sizeOf5
  v5 := Tryz.zeroValue5
  t9 := Tryz.underlying9
  a9 := Tryz.isAgg9
  z9 := Tryz.sizeOf9
  v9 := Tryz.zeroValue9
  t20 := Tryz.underlying20
  a20 := Tryz.isAgg20
  z20 := Tryz.sizeOf20
  v20 := Tryz.zeroValue20
  t37 := Tryz.underlying41
  a37 := Tryz.isAgg41
  z37 := Tryz.sizeOf41
  v37 := Tryz.zeroValue41
  t46 := Tryz.underlying53
  a46 := Tryz.isAgg53
  z46 := Tryz.sizeOf53
  v46 := Tryz.zeroValue53
  t51 := Tryz.underlying84
  a51 := Tryz.isAgg84
  z51 := Tryz.sizeOf84
  v51 := Tryz.zeroValue84
  t53 := Tryz.underlying87
  a53 := Tryz.isAgg87
  z53 := Tryz.sizeOf87
  v53 := Tryz.zeroValue87
  t70 := Tryz.underlying57
  a70 := Tryz.isAgg57
  z70 := Tryz.sizeOf57
  v70 := Tryz.zeroValue57
  t72 := Tryz.underlying59
  a72 := Tryz.isAgg59
  z72 := Tryz.sizeOf59
  v72 := Tryz.zeroValue59
  t75 := Tryz.underlying62
  a75 := Tryz.isAgg62
  z75 := Tryz.sizeOf62
  v75 := Tryz.zeroValue62
  t76 := Tryz.underlying63
  a76 := Tryz.isAgg63
  z76 := Tryz.sizeOf63
  v76 := Tryz.zeroValue63
  t109 := Tryz.underlying54
  a109 := Tryz.isAgg54
  z109 := Tryz.sizeOf54
  v109 := Tryz.zeroValue54
  t127 := Tryz.underlying90
  a127 := Tryz.isAgg90
  z127 := Tryz.sizeOf90
  v127 := Tryz.zeroValue90
  t146 := Tryz.underlying85
  a146 := Tryz.isAgg85
  z146 := Tryz.sizeOf85
  v146 := Tryz.zeroValue85
  t148 := Tryz.underlying88
  a148 := Tryz.isAgg88
  z148 := Tryz.sizeOf88
  v148 := Tryz.zeroValue88
  t164 := Tryz.underlying128
  a164 := Tryz.isAgg128
  z164 := Tryz.sizeOf128
  v164 := Tryz.zeroValue128 }
theorem Tryz.Builder_Extra_105 : Builder.Extra Tryz.prog Tryz.lays105_ren := {
  sizeBuilder := by kernel_rfl
  liesBuilder := by kernel_rfl
  t5 := Tryz.underlying5
  a5 := Tryz.isAgg5
  z5 := Tryz.sizeOf5
  v5 := Tryz.zeroValue5
  infoByte := by kernel_rfl
  cellsByte := by kernel_rfl
  sizeByte := by kernel_rfl
  neB5 := by decide }
open Go.RowKit Go.Lib in
theorem Tryz.strings_Repeat (s : ByteArray) (c : Nat) (w : World) (hc : c ≤ 9223372036854775807) (hlen : s.size * c ≤ 140737488355328) :
    Calls Tryz.prog 15 #[.string s, .int .i64 c] w fun e w' => e = .returned (.string ⟨(Lib.repeatL s.data.toList c).toArray⟩) ∧ Below w.heap.size w w' := Any.strings_Repeat Tryz.lays105 Tryz.Builder_Extra_105 s c w hc hlen
end Go.Proofs
namespace Go.Proofs.YtofnagdofpcmpaaGreatDoor.Abs
open Go Go.RowKit
theorem repeat_spec (s : ByteArray) (c : Nat) (hc : c ≤ 9223372036854775807) (hlen : s.size * c ≤ 140737488355328) (m : Mem) :
    Spec Tryz.prog 15 [.string s, .int .i64 c] m fun u M => u = .string (str (Lib.repeatL s.data.toList c)) ∧ M = m :=
  Spec.of_below rfl fun ι w ys hy hr => by
    rw [flats_eq (by simp [flat]) hy]
    refine (Tryz.strings_Repeat s c w hc hlen).mono ?_
    rintro e w' ⟨rfl, hb⟩
    exact ⟨rfl, hb⟩
end Go.Proofs.YtofnagdofpcmpaaGreatDoor.Abs
namespace Go.Proofs.YtofnagdofpcmpaaGreatDoor
open Go.RowKit Abs
theorem inf_Arc : Tryz.prog.info? 36 = some Tryz.t36 := by kernel_rfl
theorem ld_Arc (get : Nat → Option Blk) (b o : Nat) : gLoad Tryz.prog get 36 (.pointer (some ⟨b, o, none⟩)) = rowIn 8 o (get b) := ld_row Tryz.underlying36 (row_struct _) inf_Arc rfl get b o
theorem bx_Arc (xs : Array Value) (h : oneAll xs.toList = true) : nBox Tryz.prog 36 (.agg xs) = some (.cells false (aStride Tryz.prog 36) xs.toList) := nBox_row 36 h
theorem g_nt : ((none : Option Bool) == some true) = false := rfl
theorem undef_eq : undef = .tuple #[] := rfl
def zDk := And.intro @ld_Arc (And.intro @g_nt @undef_eq)
end Go.Proofs.YtofnagdofpcmpaaGreatDoor
namespace Go.Proofs.YtofnagdofpcmpaaGreatDoor.Abs
open Go
section
variable [Defs]
section
variable {P : Program} {ops : Array Oper} {a₀ : List Value} {m : Mem} {v : Nat → Value} {N : Nat → List (Option Blk)}
structure Chain (P : Program) (ops : Array Oper) (a₀ : List Value) (v : Nat → Value) (W : Nat → Mem) (wr : Nat → Bool) (q1 q2 : Nat) : Prop where
  bar : ∀ i, wr i = true → q1 ≤ i
  first : wr q1 = true
  ord : ∀ i j, i < q2 → wr i = true → j < i → wr j = true → B ops i j = true
  pure : ∀ i o, i < q2 → ops[i]? = some o → wr i = false → (q1 ≤ i ∨ B ops q1 i = false) → o.guard = none ∧ ∀ M, evOp P o.op (frB ops a₀ v i) M = some (v i, M)
  keep : ∀ i, q1 ≤ i → i < q2 → wr i = false → W (i + 1) = W i
  wrt : ∀ i o, i < q2 → ops[i]? = some o → wr i = true → o.guard = none ∧ evOp P o.op (frB ops a₀ v i) (W i) = some (v i, W (i + 1))
theorem Chain.same {W : Nat → Mem} {wr : Nat → Bool} {q1 q2 : Nat} (h : Chain P ops a₀ v W wr q1 q2) {p : Nat} (hp : q1 ≤ p) : ∀ d, p + d ≤ q2 → (∀ j, p ≤ j → j < p + d → wr j = false) → W (p + d) = W p
  | 0, _, _ => rfl
  | d + 1, h1, h2 => by
    rw [show p + (d + 1) = (p + d) + 1 by omega, h.keep (p + d) (by omega) (by omega) (h2 _ (by omega) (by omega))]
    exact h.same hp d (by omega) fun j h3 h4 => h2 j h3 (by omega)
theorem mid_runW {q1 q2 : Nat} (hq : drawOK ops q2 = true) (h12 : q1 < q2) (hqs : q2 ≤ ops.size) {W : Nat → Mem} {wr : Nat → Bool} (hC : Chain P ops a₀ v W wr q1 q2)
    {Q : Exit → List Value → Mem → Prop} {ι₀ : Nat → Loc} {m₀ : Mem} {w₀ : World}
    (ht : aOps P ops.toList (Q .normal) (ops.toList.drop q2) (frameAt ops v allS a₀ q2) (W q2)) : ∀ (fuel : Nat) (listed : Array Bool) (_ : listed.size = ops.size) (_ : leftN (getL listed) ops.size ≤ fuel)
    (_ : Down ops (getL listed)) (p : Nat) (_ : q1 < p) (_ : p ≤ q2) (_ : ∀ j, j < q2 → wr j = true → getL listed j = decide (j < p)) (_ : ∀ j, q2 ≤ j → getL listed j = false) (κ : Nat → Loc) (act : Act) (w : World),
    ARel (W p).Has κ (frameAt ops v (getL listed) a₀ q2) act → Rel κ (W p) w → Step ι₀ m₀ w₀ κ (W p) w → wpAny P .any ops (Post ι₀ m₀ w₀ Q) fuel listed act w := by
  have hq0 := hq
  simp only [drawOK, Bool.and_eq_true] at hq
  obtain ⟨⟨⟨hsel, hback⟩, hap⟩, hwait⟩ := hq
  have done : ∀ (fuel : Nat) (listed : Array Bool) (_ : listed.size = ops.size) (_ : leftN (getL listed) ops.size ≤ fuel) (p : Nat) (_ : q1 < p) (_ : p ≤ q2) (_ : ∀ j, j < q2 → wr j = true → getL listed j = decide (j < p)) (_ : ∀ j, q2 ≤ j → getL listed j = false) (κ : Nat → Loc) (act : Act) (w : World),
      ARel (W p).Has κ (frameAt ops v (getL listed) a₀ q2) act → Rel κ (W p) w → Step ι₀ m₀ w₀ κ (W p) w → (∀ j, j < q2 → getL listed j = true) → wpAny P .any ops (Post ι₀ m₀ w₀ Q) fuel listed act w := by
    intro fuel listed hsz hfuel p hp1 hp2 hpw hhi κ act w ha hr hs hall
    have hW : W q2 = W p := by
      have := hC.same (p := p) (by omega) (q2 - p) (by omega) fun j h1 h2 => by
        cases hw : wr j
        · rfl
        · have h3 := hpw j (by omega) hw
          rw [hall j (by omega)] at h3
          have := of_decide_eq_true h3.symm
          omega
      rwa [show p + (q2 - p) = q2 by omega] at this
    rw [← hW] at ha hr hs
    have hfr : frameAt ops v (getL listed) a₀ q2 = frameAt ops v allS a₀ q2 := by
      apply List.ext_getElem?
      intro t
      exact frameAt_get t q2 fun k hk _ => hall k hk
    rw [hfr] at ha
    refine tail_run hq0 _ q2 (Nat.le_refl _) rfl fuel listed hsz (fun j hj => ?_) hfuel _ _ ht κ act w hs ha hr
    rcases Nat.lt_or_ge j q2 with h | h
    · rw [hall j h]; simp [h]
    · rw [hhi j h]; simp; omega
  intro fuel
  induction fuel with
  | zero =>
    intro listed hsz hfuel hdown p hp1 hp2 hpw hhi κ act w ha hr hs
    exact done 0 listed hsz hfuel p hp1 hp2 hpw hhi κ act w ha hr hs fun j hj => left_none hfuel j (by omega)
  | succ fuel ih =>
    intro listed hsz hfuel hdown p hp1 hp2 hpw hhi κ act w ha hr hs
    by_cases hall : ∀ j, j < q2 → getL listed j = true
    · exact done (fuel + 1) listed hsz hfuel p hp1 hp2 hpw hhi κ act w ha hr hs hall
    · have hex : ∃ j, j < q2 ∧ getL listed j = false := by
        rcases Classical.em (∃ j, j < q2 ∧ getL listed j = false) with h' | h'
        · exact h'
        · refine absurd (fun j hj => ?_) hall
          cases hg : getL listed j
          · exact absurd ⟨j, hj, hg⟩ h'
          · rfl
      obtain ⟨j, hj, hjf⟩ := hex
      refine ⟨fun hn => absurd hn (ready_some hsz hback ⟨j, by omega, hjf⟩), fun i hi => ?_⟩
      obtain ⟨hilt, hiu, oi, hoi, hallE⟩ := (ready_get hsz).1 hi
      have hiq : i < q2 := by
        rcases Nat.lt_or_ge i q2 with h | h
        · exact h
        · exfalso
          have := hdown.bef i oi hoi hallE j (waitAll_spec hwait hilt h (by omega))
          rw [hjf] at this; cases this
      have hl1 : getL listed q1 = true := by rw [hpw q1 h12 hC.first]; exact decide_eq_true hp1
      have hsub : ∀ k, B ops i k = true → getL listed k = true := fun k hk => hdown.bef i oi hoi hallE k hk
      have hgl := getL_set (listed := listed) (i := i) (by omega)
      have hstep : oi.guard = none ∧ ∃ p', q1 < p' ∧ p' ≤ q2 ∧ evOp P oi.op (frB ops a₀ v i) (W p) = some (v i, W p') ∧ ∀ j, j < q2 → wr j = true → getL (listed.setIfInBounds i true) j = decide (j < p') := by
        cases hw : wr i with
        | true =>
          obtain ⟨hg, he⟩ := hC.wrt i oi hiq hoi hw
          have hpi : p ≤ i := by
            have := hpw i hiq hw
            rw [hiu] at this
            have := of_decide_eq_false this.symm
            omega
          have hno : ∀ j, p ≤ j → j < i → wr j = false := fun j h1 h2 => by
            cases hwj : wr j
            · rfl
            · have h3 := hsub j (hC.ord i j hiq hw h2 hwj)
              rw [hpw j (by omega) hwj] at h3
              have := of_decide_eq_true h3
              omega
          have hW : W i = W p := by
            have := hC.same (p := p) (by omega) (i - p) (by omega) fun j h1 h2 => hno j h1 (by omega)
            rwa [show p + (i - p) = i by omega] at this
          rw [hW] at he
          refine ⟨hg, i + 1, by have := hC.bar i hw; omega, by omega, he, fun j hjq hwj => ?_⟩
          rw [hgl]
          by_cases hji : j = i
          · subst hji; simp
          · have h1 := hpw j hjq hwj
            have h2 : (j == i) = false := by simp [hji]
            show (getL listed j || j == i) = _
            rw [h1, h2, Bool.or_false, decide_eq_decide]
            constructor
            · intro h; omega
            · intro h
              rcases Nat.lt_or_ge j p with h3 | h3
              · exact h3
              · have := hno j h3 (by omega)
                rw [hwj] at this; cases this
        | false =>
          have hcond : q1 ≤ i ∨ B ops q1 i = false := by
            rcases Nat.lt_or_ge i q1 with h | h
            · right
              cases hb : B ops q1 i
              · rfl
              · have ho1 : ops[q1]? = some ops[q1] := Array.getElem?_eq_getElem (by omega)
                have := hdown.bef q1 _ ho1 (hdown q1 _ ho1 hl1) i hb
                rw [hiu] at this; cases this
            · exact .inl h
          obtain ⟨hg, he⟩ := hC.pure i oi hiq hoi hw hcond
          refine ⟨hg, p, hp1, hp2, he _, fun j hjq hwj => ?_⟩
          rw [hgl]
          have hji : j ≠ i := fun e => by rw [e, hw] at hwj; cases hwj
          have h2 : (j == i) = false := by simp [hji]
          show (getL listed j || j == i) = _
          rw [h2, Bool.or_false]
          exact hpw j hjq hwj
      obtain ⟨hgi, p', hp1', hp2', hei, hpw'⟩ := hstep
      have h1 : evOp P oi.op (frameAt ops v (getL listed) a₀ q2) (W p) = some (v i, W p') := by
        rw [evOp_congr P oi.op (W p) (ev_looks (slot_of hap hqs hdown hoi hiq hiu hsub))]
        exact hei
      obtain ⟨v', w', κ', hran, hv, hr', hs'⟩ := evOp_run hr ha h1
      have ha' : ARel (W p').Has κ' (aPut (frameAt ops v (getL listed) a₀ q2) oi.dst (v i)) (act.put oi.dst v') := (ha.mono hs'.grows hs'.at_).put' oi.dst hv
      have hnx : wpAny P .any ops (Post ι₀ m₀ w₀ Q) fuel (listed.setIfInBounds i true) (act.put oi.dst v') w' := by
        refine ih _ (by simp [hsz]) ?_ ?_ p' hp1' hp2' hpw' (fun k hk => ?_) κ' _ w' ?_ hr' (hs.trans hs')
        · have := leftN_add hiu ops.size hilt
          rw [hgl]
          omega
        · rw [hgl]
          intro k ok hk hSk e he hb
          simp only [Bool.or_eq_true, beq_iff_eq] at hSk ⊢
          rcases hSk with hSk | rfl
          · exact .inl (hdown k ok hk hSk e he hb)
          · rw [hoi] at hk; cases hk
            exact .inl (hallE e he hb)
        · rw [hgl]
          have : (k == i) = false := by simp; omega
          simp [hhi k hk, this]
        · rw [hgl, frameAt_add hiu q2 hiq fun k h2 h3 hk t ht' hkt => ?_]
          · rw [hoi]
            exact ha'
          · have hkk : ops[k]? = some ops[k] := Array.getElem?_eq_getElem (by omega)
            rw [hoi] at ht'
            rw [hkk] at hkt
            cases hb : B ops k i
            · exact (Oper.apart_spec (apartAll_spec hap h2 h3 hoi hkk hb)).2.1 t ht' hkt
            · have := hdown.bef k _ hkk (hdown k _ hkk hk) i hb
              rw [hiu] at this; cases this
      unfold wpOp
      simp only [hoi]
      rw [wanted_free hgi]
      left
      unfold Oper.wp
      rcases hran with hran | ⟨hran, rfl⟩
      · rw [hran, Oper.upon_value]; exact hnx
      · rw [hran, Oper.upon_skip]; exact hnx
theorem newsAt_more {N : Nat → List (Option Blk)} {S : Nat → Bool} {q : Nat} : ∀ d, (∀ k, q ≤ k → k < q + d → N k = []) → newsAt N S (q + d) = newsAt N S q
  | 0, _ => rfl
  | d + 1, h => by
    rw [show q + (d + 1) = (q + d) + 1 by omega]
    simp only [newsAt]
    rw [h (q + d) (by omega) (by omega), newsAt_more d fun k h1 h2 => h k h1 (by omega)]
    simp
theorem head_runW {q1 q2 : Nat} (hq : drawOK ops q2 = true) (h12 : q1 < q2) (hqs : q2 ≤ ops.size) {W : Nat → Mem} {wr : Nat → Bool} (hC : Chain P ops a₀ v W wr q1 q2)
    (ha₀ : ∀ (t : Nat) (x : Value), a₀[t]? = some x → Cl m.Has x) (hm : ∀ b x, m.get b = some x → ClBlk m.Has x)
    (hd : ∀ i o, i < q2 → ops[i]? = some o → wr i = false → DOp P ops a₀ m v N i o) (hN1 : ∀ i, i < q1 → B ops q1 i = false → N i = []) (hN2 : ∀ i, q1 ≤ i → i < q2 → N i = []) (hW : W q1 = memAt m N allS q1)
    {Q : Exit → List Value → Mem → Prop} {ι₀ : Nat → Loc} {m₀ : Mem} {w₀ : World}
    (ht : aOps P ops.toList (Q .normal) (ops.toList.drop q2) (frameAt ops v allS a₀ q2) (W q2)) : ∀ (fuel : Nat) (listed : Array Bool) (_ : listed.size = ops.size) (_ : leftN (getL listed) ops.size ≤ fuel) (_ : ∀ j, j < q2 → wr j = true → getL listed j = false)
    (κ : Nat → Loc) (act : Act) (w : World), Inv ops a₀ m v N q2 ι₀ m₀ w₀ (getL listed) κ act w → wpAny P .any ops (Post ι₀ m₀ w₀ Q) fuel listed act w := by
  have hq0 := hq
  have hho := drawOK_head hq
  simp only [drawOK, Bool.and_eq_true] at hq
  obtain ⟨⟨⟨hsel, hback⟩, hap⟩, hwait⟩ := hq
  intro fuel
  induction fuel with
  | zero =>
    intro listed hsz hfuel hnw κ act w h
    have := left_none hfuel q1 (by omega)
    rw [hnw q1 h12 hC.first] at this
    cases this
  | succ fuel ih =>
    intro listed hsz hfuel hnw κ act w h
    have hlq := hnw q1 h12 hC.first
    refine ⟨fun hn => absurd hn (ready_some hsz hback ⟨q1, by omega, hlq⟩), fun i hi => ?_⟩
    obtain ⟨hilt, hiu, oi, hoi, hallE⟩ := (ready_get hsz).1 hi
    have hsub : ∀ k, B ops i k = true → getL listed k = true := fun k hk => h.down.bef i oi hoi hallE k hk
    have hiq : i < q2 := by
      rcases Nat.lt_or_ge i q2 with h' | h'
      · exact h'
      · exfalso
        have := hsub q1 (waitAll_spec hwait hilt h' (by omega))
        rw [hlq] at this; cases this
    have hgl := getL_set (listed := listed) (i := i) (by omega)
    cases hw : wr i with
    | false =>
      refine h.op hho (by omega) ha₀ hm hoi hiq hiu hallE (hd i oi hiq hoi hw) fun κ' act' w' h' => ?_
      refine ih _ (by simp [hsz]) ?_ (fun j hj hwj => ?_) κ' act' w' (by rw [hgl]; exact h')
      · have := leftN_add hiu ops.size hilt
        rw [hgl]
        omega
      · rw [hgl]
        have hji : j ≠ i := fun e => by rw [e, hw] at hwj; cases hwj
        have h2 : (j == i) = false := by simp [hji]
        show (getL listed j || j == i) = _
        rw [h2, Bool.or_false]
        exact hnw j hj hwj
    | true =>
      have hi1 : i = q1 := by
        have h1 := hC.bar i hw
        rcases Nat.lt_or_ge q1 i with h2 | h2
        · have := hsub q1 (hC.ord i q1 hiq hw h2 hC.first)
          rw [hlq] at this; cases this
        · omega
      subst hi1
      obtain ⟨hgi, hei⟩ := hC.wrt i oi hiq hoi hw
      have hmem : memAt m N (getL listed) q2 = W i := by
        rw [hW]
        unfold memAt
        rw [newsAt_nil (T := allS) q2 fun k hk => ?_]
        · have := newsAt_more (N := N) (S := allS) (q := i) (q2 - i) fun k h1 h2 => hN2 k h1 (by omega)
          rw [show i + (q2 - i) = q2 by omega] at this
          rw [this]
        · rcases Nat.lt_or_ge k i with h1 | h1
          · cases hf : getL listed k
            · right
              refine hN1 k h1 ?_
              cases hb : B ops i k
              · rfl
              · rw [hsub k hb] at hf; cases hf
            · exact .inl rfl
          · exact .inr (hN2 k h1 hk)
      have h1 : evOp P oi.op (frameAt ops v (getL listed) a₀ q2) (memAt m N (getL listed) q2) = some (v i, W (i + 1)) := by
        rw [hmem, evOp_congr P oi.op (W i) (ev_looks (slot_of hap hqs h.down hoi hiq hiu hsub))]
        exact hei
      obtain ⟨v', w', κ', hran, hv, hr', hs'⟩ := evOp_run h.rel h.frame h1
      have ha' : ARel (W (i + 1)).Has κ' (aPut (frameAt ops v (getL listed) a₀ q2) oi.dst (v i)) (act.put oi.dst v') := (h.frame.mono hs'.grows hs'.at_).put' oi.dst hv
      have hnx : wpAny P .any ops (Post ι₀ m₀ w₀ Q) fuel (listed.setIfInBounds i true) (act.put oi.dst v') w' := by
        refine mid_runW hq0 h12 hqs hC ht fuel _ (by simp [hsz]) ?_ ?_ (i + 1) (by omega) (by omega) (fun j hj hwj => ?_) (fun k hk => ?_) κ' _ w' ?_ hr' (h.step.trans hs')
        · have := leftN_add hiu ops.size hilt
          rw [hgl]
          omega
        · rw [hgl]
          intro k ok hk hSk e he hb
          simp only [Bool.or_eq_true, beq_iff_eq] at hSk ⊢
          rcases hSk with hSk | rfl
          · exact .inl (h.down k ok hk hSk e he hb)
          · rw [hoi] at hk; cases hk
            exact .inl (hallE e he hb)
        · rw [hgl]
          show (getL listed j || j == i) = _
          rw [hnw j hj hwj, Bool.false_or]
          have := hC.bar j hwj
          by_cases hji : j = i
          · subst hji; simp
          · have h2 : (j == i) = false := by simp [hji]
            rw [h2, decide_eq_false (by omega)]
        · rw [hgl]
          have : (k == i) = false := by simp; omega
          simp [h.low k hk, this]
        · rw [hgl, frameAt_add hiu q2 hiq fun k h2 h3 hk t ht' hkt => ?_]
          · rw [hoi]
            exact ha'
          · have hkk : ops[k]? = some ops[k] := Array.getElem?_eq_getElem (by omega)
            rw [hoi] at ht'
            rw [hkk] at hkt
            cases hb : B ops k i
            · exact (Oper.apart_spec (apartAll_spec hap h2 h3 hoi hkk hb)).2.1 t ht' hkt
            · have := h.down.bef k _ hkk (h.down k _ hkk hk) i hb
              rw [hiu] at this; cases this
      unfold wpOp
      simp only [hoi]
      rw [wanted_free hgi]
      left
      unfold Oper.wp
      rcases hran with hran | ⟨hran, rfl⟩
      · rw [hran, Oper.upon_value]; exact hnx
      · rw [hran, Oper.upon_skip]; exact hnx
theorem AW_chain {id : Nat} {Q : Exit → List Value → Mem → Prop} (hmix : P.follows .mixedOrders = true) {q1 q2 : Nat} (hq : drawOK ops q2 = true) (h12 : q1 < q2) (hqs : q2 ≤ ops.size) {W : Nat → Mem} {wr : Nat → Bool} (hC : Chain P ops a₀ v W wr q1 q2)
    (hd : ∀ i o, i < q2 → ops[i]? = some o → wr i = false → DOp P ops a₀ m v N i o) (hN1 : ∀ i, i < q1 → B ops q1 i = false → N i = []) (hN2 : ∀ i, q1 ≤ i → i < q2 → N i = []) (hW : W q1 = memAt m N allS q1)
    (ht : aOps P ops.toList (Q .normal) (ops.toList.drop q2) (frameAt ops v allS a₀ q2) (W q2)) : AW P (.region id ops true) Q a₀ m := by
  intro ι₀ m₀ w₀ ι act w hs ha hr
  refine wp_region_any hmix ?_
  have hr' : Rel ι m { w with drawn := w.drawn + 1 } := ⟨hr.at', hr.oth, hr.inj, ⟨hr.glob.known.keep fun _ _ => rfl, hr.glob.own⟩⟩
  have hs' : Step ι₀ m₀ w₀ ι m { w with drawn := w.drawn + 1 } := ⟨hs.os, hs.tape, hs.output, hs.size, hs.grows, hs.at_, hs.block, hs.own⟩
  have hcl : ∀ (t : Nat) (x : Value), a₀[t]? = some x → Cl m.Has x := fun t x hx => by
    obtain ⟨y, _, hy⟩ := ha.tmps.get hx
    exact hy.cl
  have hmc := hr.clBlk
  have hgl : getL (Array.replicate ops.size false) = fun _ => false := by
    funext k
    unfold getL
    rw [Array.getD_eq_getD_getElem?, Array.getElem?_replicate]
    split <;> rfl
  have hfr : ∀ n, frameAt ops v (fun _ => false) a₀ n = a₀ := by
    intro n
    induction n with
    | zero => rfl
    | succ n ih => simp [frameAt, ih]
  refine head_runW hq h12 hqs hC hcl hmc hd hN1 hN2 hW ht ops.size _ (by simp) (by rw [hgl, leftN_none]; exact Nat.le_refl _) (fun j _ _ => by rw [hgl]) ι act _ ?_
  rw [hgl]
  refine ⟨fun k o _ h => absurd h (by simp), fun _ _ => rfl, ?_, memAt_none_rel q2 hr', ?_, fun k _ h => absurd h (by simp), fun k _ h => absurd h (by simp)⟩
  · rw [hfr]
    exact ha.mono (fun c hc => (memAt_has _ _ _).2 (.inl hc)) fun _ _ => rfl
  · refine hs'.trans ⟨rfl, rfl, rfl, Nat.le_refl _, fun b hb => (memAt_has _ _ _).2 (.inl hb), fun _ _ => rfl, fun _ _ _ => rfl, fun b hb => .inr ⟨b, ?_, rfl⟩⟩
    obtain ⟨y, hx, hy⟩ := hb
    rcases (memAt_get _ _ _ _).1 hx with ⟨_, h1⟩ | ⟨k, _, h1, _⟩
    · exact ⟨y, h1, hy⟩
    · cases h1
end
end
end Go.Proofs.YtofnagdofpcmpaaGreatDoor.Abs
