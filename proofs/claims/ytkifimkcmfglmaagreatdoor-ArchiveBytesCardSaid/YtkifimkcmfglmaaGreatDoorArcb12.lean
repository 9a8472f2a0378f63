/-
  DERIVED: THE SHELF's CONTRACTS AT THIS DUMP, IN PLAIN WORDS (tools/lay-plain.mjs out of 'TryzShelf.lean', which tools/lay-shelf.mjs wrote): THE SAME DECLARATIONS UNDER THE SAME NAMES: 'import', 'namespace', 'open', 'def', 'theorem' AND NOTHING ELSE: no command of the shelf's: FOR A HAND-IN. Each laying: the table of numbers ('.._ren') and one theorem, a field a fact of the dump's own or the kernel's comparison; each contract: ONE APPLICATION.
  The library's contracts (of worlds), for the abstract machine: how they are turned; Itoa.
  The library's contract for what stands ahead of a text, for the abstract machine.
  The library's contracts that disks ask for, for the abstract machine.
  Loads, stores, addresses, new blocks of the types that a disk's world has.
  A disk, in plain words: what is synced, what was written since; what its methods answer.
  Pointers, compared.
  What stays of a memory.
  What an operation leaves alone in memory.
  Sums within bounds; the lesser and the greater.
  The steps of a walk, each in one lemma.
  The walks of a disk's methods.
  The walk of a disk's Sync.
  The walks of the epoch's sector.
  A function that is to do something behind its body.
  A function that is to do something behind its body: its walk.
  The walk of epoch.Next.
-/
import Derived.Shelf.Strings.Builder1
import Derived.Shelf.Strings.Builder2
import Derived.Shelf.Strings.OnBuilder
import Derived.Shelf.Strings.Trim
import Derived.Shelf.Small.Utf8
import Derived.Shelf.Small.Strs
import Derived.Shelf.Small.Wraps
import Derived.Shelf.Strings.BuilderF
import Derived.Shelf.Strings.BuilderK
import Derived.Shelf.Strings.Builder2Cap
import Derived.Shelf.Strings.Search1
import Derived.Shelf.Strings.Search2
import Derived.Shelf.Strings.Search3
import Derived.Shelf.Strings.Cut
import Derived.Shelf.LaysM
import Derived.Shelf.Strings.Shaped
import Derived.Shelf.Strings.Prefix
import Derived.Shelf.Unicode.Decode
import Derived.Shelf.Strings.Runes
import Derived.Shelf.Strings.AsciiSet
import Derived.Shelf.Bits.Mul64
import Derived.Shelf.Strings.Repeat
import Derived.Shelf.Unicode.DecodeSlow
import Derived.Shelf.Unicode.DecodeAny
import Derived.Shelf.Strings.BuilderCap
import Derived.Ground.Names2Prog
import Derived.Shelf.Slices.SearchI
import Derived.Test.YtkifimkcmfglmaaGreatDoorProg
import Derived.Test.YtkifimkcmfglmaaGreatDoorArcb11
import Derived.Lib.Strings
import Derived.Lib.TrimByte
import Derived.Test.YtkifimkcmfglmaaGreatDoorArcb03
import Derived.Test.YtkifimkcmfglmaaGreatDoorArcb08
import Derived.Defers
set_option linter.all false
namespace Go.Proofs
open Go.Shelf
def Tryz.lays156_ren : Go.Shelf.Ren := ⟨fun | 156 => 16 | 165 => 34 | 166 => 35 | 169 => 36 | 240 => 61 | 241 => 62 | 276 => 107 | 277 => 108 | n => n, fun | 31 => 24 | 9 => 9 | 3 => 3 | 4 => 4 | 0 => 0 | 20 => 20 | 72 => 74 | 76 => 78 | 70 => 72 | 37 => 66 | 75 => 77 | 127 => 104 | 164 => 146 | 5 => 5 | 80 => 80 | n => n, fun | n => n⟩
theorem Tryz.lays156 : Go.Proofs.Lays.n156 Tryz.prog Tryz.lays156_ren := {
  mixed := by kernel_rfl
  f156 := Tryz.func16.trans (congrArg some (by kernel_rfl))
  f165 := Tryz.func34.trans (congrArg some (by kernel_rfl))
  f166 := Tryz.func35.trans (congrArg some (by kernel_rfl))
  f169 := Tryz.func36.trans (congrArg some (by kernel_rfl))
  f240 := Tryz.func61.trans (congrArg some (by kernel_rfl))
  f241 := Tryz.func62.trans (congrArg some (by kernel_rfl))
  f276 := Tryz.func107.trans (congrArg some (by kernel_rfl))
  f277 := Tryz.func108.trans (congrArg some (by kernel_rfl))
  t0 := Tryz.underlying0
  a0 := Tryz.isAgg0
  z0 := Tryz.sizeOf0
  v0 := Tryz.zeroValue0
  t3 := Tryz.underlying3
  a3 := Tryz.isAgg3
  z3 := Tryz.sizeOf3
  v3 := Tryz.zeroValue3
  t4 := Tryz.underlying4
  a4 := Tryz.isAgg4
  z4 := Tryz.sizeOf4
  v4 := Tryz.zeroValue4
  t9 := Tryz.underlying9
  a9 := Tryz.isAgg9
  z9 := Tryz.sizeOf9
  v9 := Tryz.zeroValue9
  t20 := Tryz.underlying20
  a20 := Tryz.isAgg20
  z20 := Tryz.sizeOf20
  v20 := Tryz.zeroValue20
  t31 := Tryz.underlying24
  a31 := Tryz.isAgg24
  z31 := Tryz.sizeOf24
  v31 := Tryz.zeroValue24
  t37 := Tryz.underlying66
  a37 := Tryz.isAgg66
  z37 := Tryz.sizeOf66
  v37 := Tryz.zeroValue66
  t70 := Tryz.underlying72
  a70 := Tryz.isAgg72
  z70 := Tryz.sizeOf72
  v70 := Tryz.zeroValue72
  t72 := Tryz.underlying74
  a72 := Tryz.isAgg74
  z72 := Tryz.sizeOf74
  v72 := Tryz.zeroValue74
  t75 := Tryz.underlying77
  a75 := Tryz.isAgg77
  z75 := Tryz.sizeOf77
  v75 := Tryz.zeroValue77
  t76 := Tryz.underlying78
  a76 := Tryz.isAgg78
  z76 := Tryz.sizeOf78
  v76 := Tryz.zeroValue78
  t127 := Tryz.underlying104
  a127 := Tryz.isAgg104
  z127 := Tryz.sizeOf104
  v127 := Tryz.zeroValue104
  t164 := Tryz.underlying146
  a164 := Tryz.isAgg146
  z164 := Tryz.sizeOf146
  v164 := Tryz.zeroValue146 }
theorem Tryz.Builder_Extra_156 : Builder.Extra Tryz.prog Tryz.lays156_ren := {
  sizeBuilder := by kernel_rfl
  liesBuilder := by kernel_rfl
  t5 := Tryz.underlying5
  a5 := Tryz.isAgg5
  z5 := Tryz.sizeOf5
  v5 := Tryz.zeroValue5
  infoByte := by kernel_rfl
  cellsByte := by kernel_rfl
  sizeByte := by kernel_rfl
  neB5 := by decide }
open Go.RowKit in
theorem Tryz.strings_Join_none (a : Option Addr) (c : Nat) (sep : ByteArray) (w : World) :
    Calls Tryz.prog 16 #[.slice a 0 c, .string sep] w fun e w' => e = .returned (.string ⟨#[]⟩) ∧ w' = w := Any.strings_Join_none Tryz.lays156 Tryz.Builder_Extra_156 a c sep w
open Go.RowKit in
theorem Tryz.strings_Join (bk o c : Nat) (xs : List ByteArray) (sep : ByteArray) (w : World) (hcells : ∀ (j : Nat) x, xs[j]? = some x → w.cell? ⟨bk, o + j, none⟩ = some (.string x)) (hbk : bk < w.heap.size) (hN : xs.length ≤ 140737488355328) (hcap : xs.length ≤ c) (hlen : (Lib.join (xs.map (·.data.toList)) sep.data.toList).length ≤ 140737488355328) :
    Calls Tryz.prog 16 #[.slice (some ⟨bk, o, none⟩) xs.length c, .string sep] w fun e w' => e = .returned (.string ⟨(Lib.join (xs.map (·.data.toList)) sep.data.toList).toArray⟩) ∧ Below w.heap.size w w' := Any.strings_Join Tryz.lays156 Tryz.Builder_Extra_156 bk o c xs sep w hcells hbk hN hcap hlen
def Tryz.lays106_ren : Go.Shelf.Ren := ⟨fun | 106 => 146 | 213 => 174 | 265 => 195 | n => n, fun | 9 => 9 | 3 => 3 | n => n, fun | n => n⟩
theorem Tryz.lays106 : Go.Proofs.Lays.n106 Tryz.prog Tryz.lays106_ren := {
  mixed := by kernel_rfl
  f106 := Tryz.func146.trans (congrArg some (by kernel_rfl))
  f213 := Tryz.func174.trans (congrArg some (by kernel_rfl))
  f265 := Tryz.func195.trans (congrArg some (by kernel_rfl))
  t3 := Tryz.underlying3
  a3 := Tryz.isAgg3
  z3 := Tryz.sizeOf3
  v3 := Tryz.zeroValue3
  t9 := Tryz.underlying9
  a9 := Tryz.isAgg9
  z9 := Tryz.sizeOf9
  v9 := Tryz.zeroValue9 }
open Go.RowKit in
theorem Tryz.strings_Compare (a b : ByteArray) (w : World) :
    Calls Tryz.prog 146 #[.string a, .string b] w fun e w' => e = .returned (.int .i64 (Lib.compareBytes a.data.toList b.data.toList)) ∧ w' = w := Any.strings_Compare Tryz.lays106 a b w
def Tryz.lays144_ren : Go.Shelf.Ren := ⟨fun | 144 => 144 | 143 => 171 | 219 => 193 | 217 => 206 | 225 => 192 | 224 => 191 | 267 => 207 | 266 => 215 | 314 => 216 | n => n, fun | 9 => 9 | 4 => 4 | 3 => 3 | 5 => 5 | 46 => 105 | 146 => 163 | 51 => 162 | n => n, fun | 1 => 0 | n => n⟩
theorem Tryz.lays144 : Go.Proofs.Lays.n144 Tryz.prog Tryz.lays144_ren := {
  mixed := by kernel_rfl
  f143 := Tryz.func171.trans (congrArg some (by kernel_rfl))
  f144 := Tryz.func144.trans (congrArg some (by kernel_rfl))
  f217 := Tryz.func206.trans (congrArg some (by kernel_rfl))
  f219 := Tryz.func193.trans (congrArg some (by kernel_rfl))
  f224 := Tryz.func191.trans (congrArg some (by kernel_rfl))
  f225 := Tryz.func192.trans (congrArg some (by kernel_rfl))
  f266 := Tryz.func215.trans (congrArg some (by kernel_rfl))
  f267 := Tryz.func207.trans (congrArg some (by kernel_rfl))
  f314 := Tryz.func216.trans (congrArg some (by kernel_rfl))
  t3 := Tryz.underlying3
  a3 := Tryz.isAgg3
  z3 := Tryz.sizeOf3
  v3 := Tryz.zeroValue3
  t4 := Tryz.underlying4
  a4 := Tryz.isAgg4
  z4 := Tryz.sizeOf4
  v4 := Tryz.zeroValue4
  t5 := Tryz.underlying5
  a5 := Tryz.isAgg5
  z5 := Tryz.sizeOf5
  v5 := Tryz.zeroValue5
  t9 := Tryz.underlying9
  a9 := Tryz.isAgg9
  z9 := Tryz.sizeOf9
  v9 := Tryz.zeroValue9
  t46 := Tryz.underlying105
  a46 := Tryz.isAgg105
  z46 := Tryz.sizeOf105
  v46 := Tryz.zeroValue105
  t51 := Tryz.underlying162
  a51 := Tryz.isAgg162
  z51 := Tryz.sizeOf162
  v51 := Tryz.zeroValue162
  t146 := Tryz.underlying163
  a146 := Tryz.isAgg163
  z146 := Tryz.sizeOf163
  v146 := Tryz.zeroValue163
  g1 := by kernel_rfl }
open Go.RowKit Go.Lib in
theorem Tryz.strings_Contains_one (s : ByteArray) (c : UInt8) (w : World) :
    Calls Tryz.prog 144 #[.string s, .string ⟨#[c]⟩] w fun e w' => e = .returned (.bool (decide (0 ≤ Lib.indexByte s.data.toList c))) ∧ w' = w := Any.strings_Contains_one Tryz.lays144 s c w
def Tryz.lays145_ren : Go.Shelf.Ren := ⟨fun | 145 => 173 | 220 => 194 | 219 => 193 | 217 => 206 | 225 => 192 | 224 => 191 | 267 => 207 | 266 => 215 | 314 => 216 | n => n, fun | 9 => 9 | 4 => 4 | 59 => 233 | 3 => 3 | 5 => 5 | 46 => 105 | 146 => 163 | 51 => 162 | n => n, fun | 1 => 0 | n => n⟩
theorem Tryz.lays145 : Go.Proofs.Lays.n145 Tryz.prog Tryz.lays145_ren := {
  mixed := by kernel_rfl
  f145 := Tryz.func173.trans (congrArg some (by kernel_rfl))
  f217 := Tryz.func206.trans (congrArg some (by kernel_rfl))
  f219 := Tryz.func193.trans (congrArg some (by kernel_rfl))
  f220 := Tryz.func194.trans (congrArg some (by kernel_rfl))
  f224 := Tryz.func191.trans (congrArg some (by kernel_rfl))
  f225 := Tryz.func192.trans (congrArg some (by kernel_rfl))
  f266 := Tryz.func215.trans (congrArg some (by kernel_rfl))
  f267 := Tryz.func207.trans (congrArg some (by kernel_rfl))
  f314 := Tryz.func216.trans (congrArg some (by kernel_rfl))
  t3 := Tryz.underlying3
  a3 := Tryz.isAgg3
  z3 := Tryz.sizeOf3
  v3 := Tryz.zeroValue3
  t4 := Tryz.underlying4
  a4 := Tryz.isAgg4
  z4 := Tryz.sizeOf4
  v4 := Tryz.zeroValue4
  t5 := Tryz.underlying5
  a5 := Tryz.isAgg5
  z5 := Tryz.sizeOf5
  v5 := Tryz.zeroValue5
  t9 := Tryz.underlying9
  a9 := Tryz.isAgg9
  z9 := Tryz.sizeOf9
  v9 := Tryz.zeroValue9
  t46 := Tryz.underlying105
  a46 := Tryz.isAgg105
  z46 := Tryz.sizeOf105
  v46 := Tryz.zeroValue105
  t51 := Tryz.underlying162
  a51 := Tryz.isAgg162
  z51 := Tryz.sizeOf162
  v51 := Tryz.zeroValue162
  t59 := Tryz.underlying233
  a59 := Tryz.isAgg233
  z59 := Tryz.sizeOf233
  v59 := Tryz.zeroValue233
  t146 := Tryz.underlying163
  a146 := Tryz.isAgg163
  z146 := Tryz.sizeOf163
  v146 := Tryz.zeroValue163
  g1 := by kernel_rfl }
open Go.RowKit Go.Lib in
theorem Tryz.strings_Cut (s sep : ByteArray) (m : Int) (w : World) (hs : s.size < 4294967281) (hm : w.cell? ⟨0, 0, none⟩ = some (.int .i64 m)) :
    Calls Tryz.prog 173 #[.string s, .string sep] w fun e w' => e = .returned (.tuple #[.string ⟨(Lib.cut s.data.toList sep.data.toList).1.toArray⟩, .string ⟨(Lib.cut s.data.toList sep.data.toList).2.1.toArray⟩, .bool (Lib.cut s.data.toList sep.data.toList).2.2]) ∧ ∃ n, w' = w.drewN n := Any.strings_Cut Tryz.lays145 s sep m w hs hm
def Tryz.lays105_ren : Go.Shelf.Ren := ⟨fun | 105 => 47 | 212 => 73 | 99 => 74 | 165 => 34 | 166 => 35 | 170 => 75 | 169 => 36 | 263 => 122 | 264 => 123 | 206 => 124 | 240 => 61 | 241 => 62 | 276 => 107 | 277 => 108 | n => n, fun | 9 => 9 | 3 => 3 | 4 => 4 | 20 => 20 | 0 => 0 | 46 => 105 | 109 => 111 | 5 => 5 | 72 => 74 | 76 => 78 | 51 => 162 | 146 => 163 | 53 => 165 | 148 => 166 | 70 => 72 | 37 => 66 | 75 => 77 | 127 => 104 | 164 => 146 | 80 => 80 | n => n, fun | n => n⟩
theorem Tryz.lays105 : Go.Proofs.Lays.n105 Tryz.prog Tryz.lays105_ren := {
  mixed := by kernel_rfl
  f99 := Tryz.func74.trans (congrArg some (by kernel_rfl))
  f105 := Tryz.func47.trans (congrArg some (by kernel_rfl))
  f165 := Tryz.func34.trans (congrArg some (by kernel_rfl))
  f166 := Tryz.func35.trans (congrArg some (by kernel_rfl))
  f169 := Tryz.func36.trans (congrArg some (by kernel_rfl))
  f170 := Tryz.func75.trans (congrArg some (by kernel_rfl))
  f206 := Tryz.func124.trans (congrArg some (by kernel_rfl))
  f212 := Tryz.func73.trans (congrArg some (by kernel_rfl))
  f240 := Tryz.func61.trans (congrArg some (by kernel_rfl))
  f241 := Tryz.func62.trans (congrArg some (by kernel_rfl))
  f263 := Tryz.func122.trans (congrArg some (by kernel_rfl))
  f264 := Tryz.func123.trans (congrArg some (by kernel_rfl))
  f276 := Tryz.func107.trans (congrArg some (by kernel_rfl))
  f277 := Tryz.func108.trans (congrArg some (by kernel_rfl))
  t0 := Tryz.underlying0
  a0 := Tryz.isAgg0
  z0 := Tryz.sizeOf0
  v0 := Tryz.zeroValue0
  t3 := Tryz.underlying3
  a3 := Tryz.isAgg3
  z3 := Tryz.sizeOf3
  v3 := Tryz.zeroValue3
  t4 := Tryz.underlying4
  a4 := Tryz.isAgg4
  z4 := Tryz.sizeOf4
  v4 := Tryz.zeroValue4
  t5 := Tryz.underlying5
  a5 := Tryz.isAgg5
  z5 := Tryz.sizeOf5
  v5 := Tryz.zeroValue5
  t9 := Tryz.underlying9
  a9 := Tryz.isAgg9
  z9 := Tryz.sizeOf9
  v9 := Tryz.zeroValue9
  t20 := Tryz.underlying20
  a20 := Tryz.isAgg20
  z20 := Tryz.sizeOf20
  v20 := Tryz.zeroValue20
  t37 := Tryz.underlying66
  a37 := Tryz.isAgg66
  z37 := Tryz.sizeOf66
  v37 := Tryz.zeroValue66
  t46 := Tryz.underlying105
  a46 := Tryz.isAgg105
  z46 := Tryz.sizeOf105
  v46 := Tryz.zeroValue105
  t51 := Tryz.underlying162
  a51 := Tryz.isAgg162
  z51 := Tryz.sizeOf162
  v51 := Tryz.zeroValue162
  t53 := Tryz.underlying165
  a53 := Tryz.isAgg165
  z53 := Tryz.sizeOf165
  v53 := Tryz.zeroValue165
  t70 := Tryz.underlying72
  a70 := Tryz.isAgg72
  z70 := Tryz.sizeOf72
  v70 := Tryz.zeroValue72
  t72 := Tryz.underlying74
  a72 := Tryz.isAgg74
  z72 := Tryz.sizeOf74
  v72 := Tryz.zeroValue74
  t75 := Tryz.underlying77
  a75 := Tryz.isAgg77
  z75 := Tryz.sizeOf77
  v75 := Tryz.zeroValue77
  t76 := Tryz.underlying78
  a76 := Tryz.isAgg78
  z76 := Tryz.sizeOf78
  v76 := Tryz.zeroValue78
  t109 := Tryz.underlying111
  a109 := Tryz.isAgg111
  z109 := Tryz.sizeOf111
  v109 := Tryz.zeroValue111
  t127 := Tryz.underlying104
  a127 := Tryz.isAgg104
  z127 := Tryz.sizeOf104
  v127 := Tryz.zeroValue104
  t146 := Tryz.underlying163
  a146 := Tryz.isAgg163
  z146 := Tryz.sizeOf163
  v146 := Tryz.zeroValue163
  t148 := Tryz.underlying166
  a148 := Tryz.isAgg166
  z148 := Tryz.sizeOf166
  v148 := Tryz.zeroValue166
  t164 := Tryz.underlying146
  a164 := Tryz.isAgg146
  z164 := Tryz.sizeOf146
  v164 := Tryz.zeroValue146 }
theorem Tryz.Builder_Extra_105 : Builder.Extra Tryz.prog Tryz.lays105_ren := {
  sizeBuilder := by kernel_rfl
  liesBuilder := by kernel_rfl
  t5 := Tryz.underlying5
  a5 := Tryz.isAgg5
  z5 := Tryz.sizeOf5
  v5 := Tryz.zeroValue5
  infoByte := by kernel_rfl
  cellsByte := by kernel_rfl
  sizeByte := by kernel_rfl
  neB5 := by decide }
open Go.RowKit Go.Lib in
theorem Tryz.strings_Repeat (s : ByteArray) (c : Nat) (w : World) (hc : c ≤ 9223372036854775807) (hlen : s.size * c ≤ 140737488355328) :
    Calls Tryz.prog 47 #[.string s, .int .i64 c] w fun e w' => e = .returned (.string ⟨(Lib.repeatL s.data.toList c).toArray⟩) ∧ Below w.heap.size w w' := Any.strings_Repeat Tryz.lays105 Tryz.Builder_Extra_105 s c w hc hlen
end Go.Proofs
namespace Go.Proofs.YtkifimkcmfglmaaGreatDoor.Abs
open Go Go.RowKit
theorem repeat_spec (s : ByteArray) (c : Nat) (hc : c ≤ 9223372036854775807) (hlen : s.size * c ≤ 140737488355328) (m : Mem) :
    Spec Tryz.prog 47 [.string s, .int .i64 c] m fun u M => u = .string (str (Lib.repeatL s.data.toList c)) ∧ M = m :=
  Spec.of_below rfl fun ι w ys hy hr => by
    rw [flats_eq (by simp [flat]) hy]
    refine (Tryz.strings_Repeat s c w hc hlen).mono ?_
    rintro e w' ⟨rfl, hb⟩
    exact ⟨rfl, hb⟩
end Go.Proofs.YtkifimkcmfglmaaGreatDoor.Abs
namespace Go.Proofs.YtkifimkcmfglmaaGreatDoor
open Go.RowKit Abs
theorem inf_Hdr : Tryz.prog.info? 23 = some Tryz.t23 := by kernel_rfl
theorem ld_Hdr (get : Nat → Option Blk) (b o : Nat) : gLoad Tryz.prog get 23 (.pointer (some ⟨b, o, none⟩)) = rowIn 7 o (get b) := ld_row Tryz.underlying23 (row_struct _) inf_Hdr rfl get b o
theorem st_Hdr (m : Mem) (b o : Nat) (v : Value) : aStore Tryz.prog m 23 (.pointer (some ⟨b, o, none⟩)) v = putIn 7 m b o v.cells.toList (m.get b) := st_any inf_Hdr rfl m b o v
theorem al_Hdr : nAlloc Tryz.prog 23 = some (.cells false (aStride Tryz.prog 23) [.int .i64 0, .string ⟨#[]⟩, .int .i64 0, .int .i64 0, .int .i64 0, .string ⟨#[]⟩, .string ⟨#[]⟩]) := by kernel_rfl
theorem bx_Hdr (xs : Array Value) (h : oneAll xs.toList = true) : nBox Tryz.prog 23 (.agg xs) = some (.cells false (aStride Tryz.prog 23) xs.toList) := nBox_row 23 h
theorem fa_Hdr1 (b o : Nat) : aFieldAddr Tryz.prog 23 (.pointer (some ⟨b, o, none⟩)) 1 = some (.pointer (some ⟨b, o + 1, none⟩)) := by kernel_rfl
theorem fa_Hdr2 (b o : Nat) : aFieldAddr Tryz.prog 23 (.pointer (some ⟨b, o, none⟩)) 2 = some (.pointer (some ⟨b, o + 2, none⟩)) := by kernel_rfl
theorem fa_Hdr5 (b o : Nat) : aFieldAddr Tryz.prog 23 (.pointer (some ⟨b, o, none⟩)) 5 = some (.pointer (some ⟨b, o + 5, none⟩)) := by kernel_rfl
theorem fa_Hdr6 (b o : Nat) : aFieldAddr Tryz.prog 23 (.pointer (some ⟨b, o, none⟩)) 6 = some (.pointer (some ⟨b, o + 6, none⟩)) := by kernel_rfl
theorem inf_Arc : Tryz.prog.info? 26 = some Tryz.t26 := by kernel_rfl
theorem ld_Arc (get : Nat → Option Blk) (b o : Nat) : gLoad Tryz.prog get 26 (.pointer (some ⟨b, o, none⟩)) = rowIn 8 o (get b) := ld_row Tryz.underlying26 (row_struct _) inf_Arc rfl get b o
theorem st_Arc (m : Mem) (b o : Nat) (v : Value) : aStore Tryz.prog m 26 (.pointer (some ⟨b, o, none⟩)) v = putIn 8 m b o v.cells.toList (m.get b) := st_any inf_Arc rfl m b o v
theorem al_Arc : nAlloc Tryz.prog 26 = some (.cells false (aStride Tryz.prog 26) [.int .i64 0, .string ⟨#[]⟩, .int .i64 0, .int .i64 0, .int .i64 0, .string ⟨#[]⟩, .string ⟨#[]⟩, .slice none 0 0]) := by kernel_rfl
theorem bx_Arc (xs : Array Value) (h : oneAll xs.toList = true) : nBox Tryz.prog 26 (.agg xs) = some (.cells false (aStride Tryz.prog 26) xs.toList) := nBox_row 26 h
theorem fa_Arc0 (b o : Nat) : aFieldAddr Tryz.prog 26 (.pointer (some ⟨b, o, none⟩)) 0 = some (.pointer (some ⟨b, o, none⟩)) := by kernel_rfl
theorem fa_Arc1 (b o : Nat) : aFieldAddr Tryz.prog 26 (.pointer (some ⟨b, o, none⟩)) 1 = some (.pointer (some ⟨b, o + 7, none⟩)) := by kernel_rfl
theorem inf_Str : Tryz.prog.info? 9 = some Tryz.t9 := by kernel_rfl
theorem sz_Str : Tryz.t9.size = 1 := rfl
theorem ld_Str (get : Nat → Option Blk) (b o : Nat) : gLoad Tryz.prog get 9 (.pointer (some ⟨b, o, none⟩)) = cellIn o (get b) := ld_cell Tryz.underlying9 rfl get b o
theorem ld_Int (get : Nat → Option Blk) (b o : Nat) : gLoad Tryz.prog get 3 (.pointer (some ⟨b, o, none⟩)) = cellIn o (get b) := ld_cell Tryz.underlying3 rfl get b o
theorem inf_SS : Tryz.prog.info? 24 = some Tryz.t24 := by kernel_rfl
theorem ld_SS (get : Nat → Option Blk) (b o : Nat) : gLoad Tryz.prog get 24 (.pointer (some ⟨b, o, none⟩)) = cellIn o (get b) := ld_cell Tryz.underlying24 rfl get b o
theorem st_SS (m : Mem) (b o : Nat) (v : Value) : aStore Tryz.prog m 24 (.pointer (some ⟨b, o, none⟩)) v = putIn 1 m b o v.cells.toList (m.get b) := st_any inf_SS rfl m b o v
theorem undef_eq : undef = .tuple #[] := rfl
def zDk := And.intro (And.intro (And.intro (And.intro @ld_Hdr @st_Hdr) (And.intro @fa_Hdr1 @fa_Hdr2)) (And.intro (And.intro @fa_Hdr5 @fa_Hdr6) (And.intro @ld_Arc @st_Arc))) (And.intro (And.intro (And.intro @fa_Arc0 @fa_Arc1) (And.intro @ld_Str @ld_Int)) (And.intro (And.intro @ld_SS @st_SS) (And.intro Tryz.underlying9 (And.intro Tryz.underlying24 @undef_eq))))
end Go.Proofs.YtkifimkcmfglmaaGreatDoor
namespace Go.Proofs.YtkifimkcmfglmaaGreatDoor
open Go.RowKit Abs
theorem pd_eql (p o : Nat) : aBin Tryz.prog .eql 157 true (.pointer (some ⟨p, o, none⟩)) (.pointer none) = some (.bool false) := by kernel_rfl
def zPt := @pd_eql
end Go.Proofs.YtkifimkcmfglmaaGreatDoor
namespace Go.Proofs.YtkifimkcmfglmaaGreatDoor.Abs
open Go
theorem wri {x : Int} (h0 : -9223372036854775808 ≤ x) (h1 : x ≤ 9223372036854775807) : IntKind.i64.wrap x = x := by
  unfold IntKind.wrap; simp [IntKind.bits, IntKind.signed]; omega
end Go.Proofs.YtkifimkcmfglmaaGreatDoor.Abs
namespace Go.Proofs.YtkifimkcmfglmaaGreatDoor.Abs
open Go Go.RowKit
def zA := And.intro @zZ (And.intro @zDk @zPt)
section
variable {n k : Nat} {f : AL} {m : Mem} {Q : Exit → AL → Mem → Prop} {B : Prop}
theorem CF {c : Operand} {x y : Code} (h : @CW Tryz.prog n k ⟨y⟩ ⟨Q⟩ f m) (hc : AL.look f c = some (.bool false) := by rfl) : @CW Tryz.prog n k ⟨.cond c x y⟩ ⟨Q⟩ f m := CW_cond false hc (fun e => by cases e) fun _ => h
theorem CT {c : Operand} {x y : Code} (h : @CW Tryz.prog n k ⟨x⟩ ⟨Q⟩ f m) (hc : AL.look f c = some (.bool true) := by rfl) : @CW Tryz.prog n k ⟨.cond c x y⟩ ⟨Q⟩ f m := CW_cond true hc (fun _ => h) fun e => by cases e
theorem CC {c : Operand} {x y : Code} (t : Bool) (ht : t = true → @CW Tryz.prog n k ⟨x⟩ ⟨Q⟩ f m) (hf : t = false → @CW Tryz.prog n k ⟨y⟩ ⟨Q⟩ f m) (hc : AL.look f c = some (.bool t) := by rfl) : @CW Tryz.prog n k ⟨.cond c x y⟩ ⟨Q⟩ f m := CW_cond t hc ht hf
theorem WMx {g : FuncId} {fn : Func} {c : Code} {xs : List Value} {R : Value → Mem → Prop} {m : Mem} (hf : Tryz.prog.funcs[g]? = some fn) {rs : Array ResultVar} (hr : fn.results = rs) {n : Nat} (hn : fn.ntmps = n)
    (h : Within m → (∀ x ∈ xs, Cl m.Has x) → ∀ k, @CW Tryz.prog n k ⟨c⟩ ⟨mEnd Tryz.prog rs.toList R⟩ (alOf 0 xs) m) (hb : fn.body = some c := by rfl) (hx : xs.length ≤ n := by simp) : Spec Tryz.prog g xs m R := Spec.walkM hf hb rs hr n hn hx h
theorem WM {g : FuncId} {fn : Func} {c : Code} {xs : List Value} {R : Value → Mem → Prop} {m : Mem} (hf : Tryz.prog.funcs[g]? = some fn) {rs : Array ResultVar} (hr : fn.results = rs) {n : Nat} (hn : fn.ntmps = n)
    (h : ∀ k, @CW Tryz.prog n k ⟨c⟩ ⟨mEnd Tryz.prog rs.toList R⟩ (alOf 0 xs) m) (hb : fn.body = some c := by rfl) (hx : xs.length ≤ n := by simp) : Spec Tryz.prog g xs m R := Spec.walkM hf hb rs hr n hn hx fun _ _ => h
theorem R0 {id : Nat} {ops : Array Oper} (h : B) (e : @sOpsB Tryz.prog n ops.toList ⟨Q .normal⟩ ops.toList f m = B := by simp only [zA, reduceIte, Nat.reduceLT, Int.reduceToNat, Int.reduceLE, Int.reduceEq, Int.reduceLT, Nat.reduceEqDiff, Nat.reduceAdd, Nat.reduceSub]; rfl) : @CW Tryz.prog n k ⟨.region id ops false⟩ ⟨Q⟩ f m := CW_region (e.mpr h)
theorem T0 (h : B) (e : Q .ret f m = B := by simp only [zA, reduceIte, Nat.reduceLT, Int.reduceToNat, Int.reduceLE, Int.reduceEq, Int.reduceLT, Nat.reduceEqDiff, Nat.reduceAdd, Nat.reduceSub, mEnd, sAnswer, sAnswer.sRes]; rfl) : @CW Tryz.prog n k ⟨.ret⟩ ⟨Q⟩ f m := CW_ret (e.mpr h)
theorem K0 {g : FuncId} {xs : List Value} {v : Value} {G : Value → Mem → Prop} (s : Spec Tryz.prog g xs m fun u M => u = v ∧ M = m) (h : B) (he : entered Tryz.prog g = true := by kernel_rfl) (e : G v m = B := by simp only [zA, reduceIte, Nat.reduceLT, Int.reduceToNat, Int.reduceLE, Int.reduceEq, Int.reduceLT, Nat.reduceEqDiff, Nat.reduceAdd, Nat.reduceSub]; rfl) : entered Tryz.prog g = true ∧ ∃ R, Spec Tryz.prog g xs m R ∧ @Later ⟨∀ u M, R u M → G u M⟩ := ⟨he, _, s, fun u M ⟨hu, hM⟩ => by subst hu; subst hM; exact e.mpr h⟩
theorem S1 {A : Prop} {F0 : Prop} (g0 : F0) (h : B) (e : F0 → A = B := by intro g0; simp only [zA, g0, reduceIte, Nat.reduceLT, Int.reduceToNat, Int.reduceLE, Int.reduceEq, Int.reduceLT, Nat.reduceEqDiff, Nat.reduceAdd, Nat.reduceSub]; rfl) : A := (e g0).mpr h
theorem R1 {id : Nat} {ops : Array Oper} {F0 : Prop} (g0 : F0) (h : B) (e : F0 → @sOpsB Tryz.prog n ops.toList ⟨Q .normal⟩ ops.toList f m = B := by intro g0; simp only [zA, g0, reduceIte, Nat.reduceLT, Int.reduceToNat, Int.reduceLE, Int.reduceEq, Int.reduceLT, Nat.reduceEqDiff, Nat.reduceAdd, Nat.reduceSub]; rfl) : @CW Tryz.prog n k ⟨.region id ops false⟩ ⟨Q⟩ f m := CW_region ((e g0).mpr h)
theorem T1 {F0 : Prop} (g0 : F0) (h : B) (e : F0 → Q .ret f m = B := by intro g0; simp only [zA, g0, reduceIte, Nat.reduceLT, Int.reduceToNat, Int.reduceLE, Int.reduceEq, Int.reduceLT, Nat.reduceEqDiff, Nat.reduceAdd, Nat.reduceSub, mEnd, sAnswer, sAnswer.sRes]; rfl) : @CW Tryz.prog n k ⟨.ret⟩ ⟨Q⟩ f m := CW_ret ((e g0).mpr h)
theorem R2 {id : Nat} {ops : Array Oper} {F0 F1 : Prop} (g0 : F0) (g1 : F1) (h : B) (e : F0 → F1 → @sOpsB Tryz.prog n ops.toList ⟨Q .normal⟩ ops.toList f m = B := by intro g0 g1; simp only [zA, g0, g1, reduceIte, Nat.reduceLT, Int.reduceToNat, Int.reduceLE, Int.reduceEq, Int.reduceLT, Nat.reduceEqDiff, Nat.reduceAdd, Nat.reduceSub]; rfl) : @CW Tryz.prog n k ⟨.region id ops false⟩ ⟨Q⟩ f m := CW_region ((e g0 g1).mpr h)
theorem T2 {F0 F1 : Prop} (g0 : F0) (g1 : F1) (h : B) (e : F0 → F1 → Q .ret f m = B := by intro g0 g1; simp only [zA, g0, g1, reduceIte, Nat.reduceLT, Int.reduceToNat, Int.reduceLE, Int.reduceEq, Int.reduceLT, Nat.reduceEqDiff, Nat.reduceAdd, Nat.reduceSub, mEnd, sAnswer, sAnswer.sRes]; rfl) : @CW Tryz.prog n k ⟨.ret⟩ ⟨Q⟩ f m := CW_ret ((e g0 g1).mpr h)
theorem S3 {A : Prop} {F0 F1 F2 : Prop} (g0 : F0) (g1 : F1) (g2 : F2) (h : B) (e : F0 → F1 → F2 → A = B := by intro g0 g1 g2; simp only [zA, g0, g1, g2, reduceIte, Nat.reduceLT, Int.reduceToNat, Int.reduceLE, Int.reduceEq, Int.reduceLT, Nat.reduceEqDiff, Nat.reduceAdd, Nat.reduceSub]; rfl) : A := (e g0 g1 g2).mpr h
theorem D3 {id : Nat} {ops : Array Oper} (q : Nat) {F0 F1 F2 : Prop} (g0 : F0) (g1 : F1) (g2 : F2) (h : B) (hq : drawOK ops q = true := by kernel_rfl) (hs : Nat.ble q ops.size = true := by kernel_rfl) (e : F0 → F1 → F2 → @sHeadB Tryz.prog n ops.toList m ⟨fun f' M => @sOpsB Tryz.prog n ops.toList ⟨Q .normal⟩ (ops.toList.drop q) f' M⟩ (ops.toList.take q) false f m = B := by intro g0 g1 g2; simp only [zA, g0, g1, g2, reduceIte, Nat.reduceLT, Int.reduceToNat, Int.reduceLE, Int.reduceEq, Int.reduceLT, Nat.reduceEqDiff, Nat.reduceAdd, Nat.reduceSub]; rfl) : @CW Tryz.prog n k ⟨.region id ops true⟩ ⟨Q⟩ f m := CW_draw hmix q hq hs ((e g0 g1 g2).mpr h)
theorem T3 {F0 F1 F2 : Prop} (g0 : F0) (g1 : F1) (g2 : F2) (h : B) (e : F0 → F1 → F2 → Q .ret f m = B := by intro g0 g1 g2; simp only [zA, g0, g1, g2, reduceIte, Nat.reduceLT, Int.reduceToNat, Int.reduceLE, Int.reduceEq, Int.reduceLT, Nat.reduceEqDiff, Nat.reduceAdd, Nat.reduceSub, mEnd, sAnswer, sAnswer.sRes]; rfl) : @CW Tryz.prog n k ⟨.ret⟩ ⟨Q⟩ f m := CW_ret ((e g0 g1 g2).mpr h)
theorem T4 {F0 F1 F2 F3 : Prop} (g0 : F0) (g1 : F1) (g2 : F2) (g3 : F3) (h : B) (e : F0 → F1 → F2 → F3 → Q .ret f m = B := by intro g0 g1 g2 g3; simp only [zA, g0, g1, g2, g3, reduceIte, Nat.reduceLT, Int.reduceToNat, Int.reduceLE, Int.reduceEq, Int.reduceLT, Nat.reduceEqDiff, Nat.reduceAdd, Nat.reduceSub, mEnd, sAnswer, sAnswer.sRes]; rfl) : @CW Tryz.prog n k ⟨.ret⟩ ⟨Q⟩ f m := CW_ret ((e g0 g1 g2 g3).mpr h)
theorem T5 {F0 F1 F2 F3 F4 : Prop} (g0 : F0) (g1 : F1) (g2 : F2) (g3 : F3) (g4 : F4) (h : B) (e : F0 → F1 → F2 → F3 → F4 → Q .ret f m = B := by intro g0 g1 g2 g3 g4; simp only [zA, g0, g1, g2, g3, g4, reduceIte, Nat.reduceLT, Int.reduceToNat, Int.reduceLE, Int.reduceEq, Int.reduceLT, Nat.reduceEqDiff, Nat.reduceAdd, Nat.reduceSub, mEnd, sAnswer, sAnswer.sRes]; rfl) : @CW Tryz.prog n k ⟨.ret⟩ ⟨Q⟩ f m := CW_ret ((e g0 g1 g2 g3 g4).mpr h)
end
end Go.Proofs.YtkifimkcmfglmaaGreatDoor.Abs
