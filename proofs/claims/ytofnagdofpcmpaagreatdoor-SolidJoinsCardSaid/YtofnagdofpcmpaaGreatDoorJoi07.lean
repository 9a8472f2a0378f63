/-
  DERIVED: THE SHELF's CONTRACTS AT THIS DUMP, IN PLAIN WORDS (tools/lay-plain.mjs out of 'TryzShelf.lean', which tools/lay-shelf.mjs wrote): THE SAME DECLARATIONS UNDER THE SAME NAMES: 'import', 'namespace', 'open', 'def', 'theorem' AND NOTHING ELSE: no command of the shelf's: FOR A HAND-IN. Each laying: the table of numbers ('.._ren') and one theorem, a field a fact of the dump's own or the kernel's comparison; each contract: ONE APPLICATION.
  The library's contracts (of worlds), for the abstract machine: how they are turned; Itoa.
  The library's contract for what stands ahead of a text, for the abstract machine.
  The library's contracts that disks ask for, for the abstract machine.
  Loads, stores, addresses, new blocks of the types that a disk's world has.
  The library's contracts for texts that are cut, and joined, for the abstract machine.
  The library's contracts that streams ask for, for the abstract machine.
  Texts, one behind the other; digits.
  A text, cut.
  Sums within bounds; the lesser and the greater.
  Chunks, in plain words; lists of texts in memory.
  The reference's Split.
  Splitting: the program's.
  Joining: the program's.
  The reference: lists of texts are the same; joining.
-/
import Derived.Shelf.Strings.Builder1
import Derived.Shelf.Strings.Builder2
import Derived.Shelf.Strings.OnBuilder
import Derived.Shelf.Strings.Trim
import Derived.Shelf.Small.Utf8
import Derived.Shelf.Small.Strs
import Derived.Shelf.Small.Wraps
import Derived.Shelf.Strings.BuilderF
import Derived.Shelf.Strings.BuilderK
import Derived.Shelf.Strings.Builder2Cap
import Derived.Shelf.Strings.Search1
import Derived.Shelf.Strings.Search2
import Derived.Shelf.Strings.Search3
import Derived.Shelf.Strings.Cut
import Derived.Shelf.LaysM
import Derived.Shelf.Strings.Shaped
import Derived.Shelf.Strings.Prefix
import Derived.Shelf.Strings.Runes
import Derived.Shelf.Strings.AsciiSet
import Derived.Shelf.Bits.Mul64
import Derived.Shelf.Strings.Repeat
import Derived.Shelf.Unicode.DecodeSlow
import Derived.Shelf.Strings.BuilderCap
import Derived.Test.YtofnagdofpcmpaaGreatDoorProg
import Derived.Test.YtofnagdofpcmpaaGreatDoorJoi06
import Derived.Lib.Strings
import Derived.Lib.TrimByte
import Derived.Lib.SmallJoins
import Derived.Lib.AtoiAllCases
import Derived.Lib.ItoaMem
set_option linter.all false
namespace Go.Proofs
open Go.Shelf
def Tryz.lays156_ren : Go.Shelf.Ren := ⟨fun | 156 => 16 | 165 => 25 | 166 => 26 | 169 => 28 | 240 => 49 | 241 => 50 | 276 => 88 | 277 => 89 | n => n, fun | 31 => 22 | 9 => 9 | 3 => 3 | 4 => 4 | 0 => 0 | 20 => 20 | 72 => 59 | 76 => 63 | 70 => 57 | 37 => 41 | 75 => 62 | 127 => 90 | 164 => 128 | 5 => 5 | 80 => 66 | n => n, fun | n => n⟩
theorem Tryz.lays156 : Go.Proofs.Lays.n156 Tryz.prog Tryz.lays156_ren := {
  mixed := by kernel_rfl
  f156 := Tryz.func16.trans (congrArg some (by kernel_rfl))
  f165 := Tryz.func25.trans (congrArg some (by kernel_rfl))
  f166 := Tryz.func26.trans (congrArg some (by kernel_rfl))
  f169 := Tryz.func28.trans (congrArg some (by kernel_rfl))
  f240 := Tryz.func49.trans (congrArg some (by kernel_rfl))
  f241 := Tryz.func50.trans (congrArg some (by kernel_rfl))
  f276 := Tryz.func88.trans (congrArg some (by kernel_rfl))
  f277 := Tryz.func89.trans (congrArg some (by kernel_rfl))
  t0 := Tryz.underlying0
  a0 := Tryz.isAgg0
  z0 := Tryz.sizeOf0
  v0 := Tryz.zeroValue0
  t3 := Tryz.underlying3
  a3 := Tryz.isAgg3
  z3 := Tryz.sizeOf3
  v3 := Tryz.zeroValue3
  t4 := Tryz.underlying4
  a4 := Tryz.isAgg4
  z4 := Tryz.sizeOf4
  v4 := Tryz.zeroValue4
  t9 := Tryz.underlying9
  a9 := Tryz.isAgg9
  z9 := Tryz.sizeOf9
  v9 := Tryz.zeroValue9
  t20 := Tryz.underlying20
  a20 := Tryz.isAgg20
  z20 := Tryz.sizeOf20
  v20 := Tryz.zeroValue20
  t31 := Tryz.underlying22
  a31 := Tryz.isAgg22
  z31 := Tryz.sizeOf22
  v31 := Tryz.zeroValue22
  t37 := Tryz.underlying41
  a37 := Tryz.isAgg41
  z37 := Tryz.sizeOf41
  v37 := Tryz.zeroValue41
  t70 := Tryz.underlying57
  a70 := Tryz.isAgg57
  z70 := Tryz.sizeOf57
  v70 := Tryz.zeroValue57
  t72 := Tryz.underlying59
  a72 := Tryz.isAgg59
  z72 := Tryz.sizeOf59
  v72 := Tryz.zeroValue59
  t75 := Tryz.underlying62
  a75 := Tryz.isAgg62
  z75 := Tryz.sizeOf62
  v75 := Tryz.zeroValue62
  t76 := Tryz.underlying63
  a76 := Tryz.isAgg63
  z76 := Tryz.sizeOf63
  v76 := Tryz.zeroValue63
  t127 := Tryz.underlying90
  a127 := Tryz.isAgg90
  z127 := Tryz.sizeOf90
  v127 := Tryz.zeroValue90
  t164 := Tryz.underlying128
  a164 := Tryz.isAgg128
  z164 := Tryz.sizeOf128
  v164 := Tryz.zeroValue128 }
theorem Tryz.Builder_Extra_156 : Builder.Extra Tryz.prog Tryz.lays156_ren := {
  sizeBuilder := by kernel_rfl
  liesBuilder := by kernel_rfl
  t5 := Tryz.underlying5
  a5 := Tryz.isAgg5
  z5 := Tryz.sizeOf5
  v5 := Tryz.zeroValue5
  infoByte := by kernel_rfl
  cellsByte := by kernel_rfl
  sizeByte := by kernel_rfl
  neB5 := by decide }
open Go.RowKit in
theorem Tryz.strings_Join_none (a : Option Addr) (c : Nat) (sep : ByteArray) (w : World) :
    Calls Tryz.prog 16 #[.slice a 0 c, .string sep] w fun e w' => e = .returned (.string ⟨#[]⟩) ∧ w' = w := Any.strings_Join_none Tryz.lays156 Tryz.Builder_Extra_156 a c sep w
open Go.RowKit in
theorem Tryz.strings_Join (bk o c : Nat) (xs : List ByteArray) (sep : ByteArray) (w : World) (hcells : ∀ (j : Nat) x, xs[j]? = some x → w.cell? ⟨bk, o + j, none⟩ = some (.string x)) (hbk : bk < w.heap.size) (hN : xs.length ≤ 140737488355328) (hcap : xs.length ≤ c) (hlen : (Lib.join (xs.map (·.data.toList)) sep.data.toList).length ≤ 140737488355328) :
    Calls Tryz.prog 16 #[.slice (some ⟨bk, o, none⟩) xs.length c, .string sep] w fun e w' => e = .returned (.string ⟨(Lib.join (xs.map (·.data.toList)) sep.data.toList).toArray⟩) ∧ Below w.heap.size w w' := Any.strings_Join Tryz.lays156 Tryz.Builder_Extra_156 bk o c xs sep w hcells hbk hN hcap hlen
def Tryz.lays160_ren : Go.Shelf.Ren := ⟨fun | 160 => 17 | 232 => 30 | 231 => 29 | 227 => 31 | 234 => 33 | 233 => 32 | 236 => 35 | 235 => 34 | 228 => 51 | 271 => 54 | 151 => 53 | 197 => 52 | 120 => 92 | 152 => 91 | 260 => 90 | 137 => 133 | 119 => 134 | 224 => 135 | 225 => 136 | 217 => 160 | 266 => 182 | n => n, fun | 9 => 9 | 4 => 4 | 3 => 3 | 5 => 5 | 117 => 70 | 116 => 69 | 0 => 0 | 124 => 73 | 21 => 21 | 105 => 92 | 46 => 53 | 119 => 173 | 139 => 176 | 138 => 175 | n => n, fun | 3 => 1 | 4 => 2 | n => n⟩
theorem Tryz.lays160 : Go.Proofs.Lays.n160 Tryz.prog Tryz.lays160_ren := {
  mixed := by kernel_rfl
  f119 := Tryz.func134.trans (congrArg some (by kernel_rfl))
  f120 := Tryz.func92.trans (congrArg some (by kernel_rfl))
  f137 := Tryz.func133.trans (congrArg some (by kernel_rfl))
  f151 := Tryz.func53.trans (congrArg some (by kernel_rfl))
  f152 := Tryz.func91.trans (congrArg some (by kernel_rfl))
  f160 := Tryz.func17.trans (congrArg some (by kernel_rfl))
  f197 := Tryz.func52.trans (congrArg some (by kernel_rfl))
  f217 := Tryz.func160.trans (congrArg some (by kernel_rfl))
  f224 := Tryz.func135.trans (congrArg some (by kernel_rfl))
  f225 := Tryz.func136.trans (congrArg some (by kernel_rfl))
  f227 := Tryz.func31.trans (congrArg some (by kernel_rfl))
  f228 := Tryz.func51.trans (congrArg some (by kernel_rfl))
  f231 := Tryz.func29.trans (congrArg some (by kernel_rfl))
  f232 := Tryz.func30.trans (congrArg some (by kernel_rfl))
  f233 := Tryz.func32.trans (congrArg some (by kernel_rfl))
  f234 := Tryz.func33.trans (congrArg some (by kernel_rfl))
  f235 := Tryz.func34.trans (congrArg some (by kernel_rfl))
  f236 := Tryz.func35.trans (congrArg some (by kernel_rfl))
  f260 := Tryz.func90.trans (congrArg some (by kernel_rfl))
  f266 := Tryz.func182.trans (congrArg some (by kernel_rfl))
  f271 := Tryz.func54.trans (congrArg some (by kernel_rfl))
  t0 := Tryz.underlying0
  a0 := Tryz.isAgg0
  z0 := Tryz.sizeOf0
  v0 := Tryz.zeroValue0
  t3 := Tryz.underlying3
  a3 := Tryz.isAgg3
  z3 := Tryz.sizeOf3
  v3 := Tryz.zeroValue3
  t4 := Tryz.underlying4
  a4 := Tryz.isAgg4
  z4 := Tryz.sizeOf4
  v4 := Tryz.zeroValue4
  t5 := Tryz.underlying5
  a5 := Tryz.isAgg5
  z5 := Tryz.sizeOf5
  v5 := Tryz.zeroValue5
  t9 := Tryz.underlying9
  a9 := Tryz.isAgg9
  z9 := Tryz.sizeOf9
  v9 := Tryz.zeroValue9
  t21 := Tryz.underlying21
  a21 := Tryz.isAgg21
  z21 := Tryz.sizeOf21
  v21 := Tryz.zeroValue21
  t46 := Tryz.underlying53
  a46 := Tryz.isAgg53
  z46 := Tryz.sizeOf53
  v46 := Tryz.zeroValue53
  t105 := Tryz.underlying92
  a105 := Tryz.isAgg92
  z105 := Tryz.sizeOf92
  v105 := Tryz.zeroValue92
  t116 := Tryz.underlying69
  a116 := Tryz.isAgg69
  z116 := Tryz.sizeOf69
  t117 := Tryz.underlying70
  a117 := Tryz.isAgg70
  z117 := Tryz.sizeOf70
  v117 := Tryz.zeroValue70
  t119 := Tryz.underlying173
  a119 := Tryz.isAgg173
  z119 := Tryz.sizeOf173
  t124 := Tryz.underlying73
  a124 := Tryz.isAgg73
  z124 := Tryz.sizeOf73
  v124 := Tryz.zeroValue73
  t138 := Tryz.underlying175
  a138 := Tryz.isAgg175
  z138 := Tryz.sizeOf175
  v138 := Tryz.zeroValue175
  t139 := Tryz.underlying176
  a139 := Tryz.isAgg176
  z139 := Tryz.sizeOf176
  v139 := Tryz.zeroValue176
  g3 := by kernel_rfl
  g4 := by kernel_rfl }
open Go.RowKit in
theorem Tryz.strings_Trim_one (s : ByteArray) (c : UInt8) (hc : c.toNat < 128) (w : World) (hs : s.size ≤ 9223372036854775807) :
    Calls Tryz.prog 17 #[.string s, .string ⟨#[c]⟩] w fun e w' => e = .returned (.string ⟨(Lib.trimB s.data.toList c).toArray⟩) ∧ (w' = w ∨ w' = w.drew) := Any.strings_Trim_one Tryz.lays160 s c hc w hs
def Tryz.lays106_ren : Go.Shelf.Ren := ⟨fun | 106 => 118 | 213 => 155 | 265 => 176 | n => n, fun | 9 => 9 | 3 => 3 | n => n, fun | n => n⟩
theorem Tryz.lays106 : Go.Proofs.Lays.n106 Tryz.prog Tryz.lays106_ren := {
  mixed := by kernel_rfl
  f106 := Tryz.func118.trans (congrArg some (by kernel_rfl))
  f213 := Tryz.func155.trans (congrArg some (by kernel_rfl))
  f265 := Tryz.func176.trans (congrArg some (by kernel_rfl))
  t3 := Tryz.underlying3
  a3 := Tryz.isAgg3
  z3 := Tryz.sizeOf3
  v3 := Tryz.zeroValue3
  t9 := Tryz.underlying9
  a9 := Tryz.isAgg9
  z9 := Tryz.sizeOf9
  v9 := Tryz.zeroValue9 }
open Go.RowKit in
theorem Tryz.strings_Compare (a b : ByteArray) (w : World) :
    Calls Tryz.prog 118 #[.string a, .string b] w fun e w' => e = .returned (.int .i64 (Lib.compareBytes a.data.toList b.data.toList)) ∧ w' = w := Any.strings_Compare Tryz.lays106 a b w
def Tryz.lays144_ren : Go.Shelf.Ren := ⟨fun | 144 => 116 | 143 => 152 | 219 => 174 | 217 => 160 | 225 => 136 | 224 => 135 | 267 => 193 | 266 => 182 | 314 => 202 | n => n, fun | 9 => 9 | 4 => 4 | 3 => 3 | 5 => 5 | 46 => 53 | 146 => 85 | 51 => 84 | n => n, fun | 1 => 0 | n => n⟩
theorem Tryz.lays144 : Go.Proofs.Lays.n144 Tryz.prog Tryz.lays144_ren := {
  mixed := by kernel_rfl
  f143 := Tryz.func152.trans (congrArg some (by kernel_rfl))
  f144 := Tryz.func116.trans (congrArg some (by kernel_rfl))
  f217 := Tryz.func160.trans (congrArg some (by kernel_rfl))
  f219 := Tryz.func174.trans (congrArg some (by kernel_rfl))
  f224 := Tryz.func135.trans (congrArg some (by kernel_rfl))
  f225 := Tryz.func136.trans (congrArg some (by kernel_rfl))
  f266 := Tryz.func182.trans (congrArg some (by kernel_rfl))
  f267 := Tryz.func193.trans (congrArg some (by kernel_rfl))
  f314 := Tryz.func202.trans (congrArg some (by kernel_rfl))
  t3 := Tryz.underlying3
  a3 := Tryz.isAgg3
  z3 := Tryz.sizeOf3
  v3 := Tryz.zeroValue3
  t4 := Tryz.underlying4
  a4 := Tryz.isAgg4
  z4 := Tryz.sizeOf4
  v4 := Tryz.zeroValue4
  t5 := Tryz.underlying5
  a5 := Tryz.isAgg5
  z5 := Tryz.sizeOf5
  v5 := Tryz.zeroValue5
  t9 := Tryz.underlying9
  a9 := Tryz.isAgg9
  z9 := Tryz.sizeOf9
  v9 := Tryz.zeroValue9
  t46 := Tryz.underlying53
  a46 := Tryz.isAgg53
  z46 := Tryz.sizeOf53
  v46 := Tryz.zeroValue53
  t51 := Tryz.underlying84
  a51 := Tryz.isAgg84
  z51 := Tryz.sizeOf84
  v51 := Tryz.zeroValue84
  t146 := Tryz.underlying85
  a146 := Tryz.isAgg85
  z146 := Tryz.sizeOf85
  v146 := Tryz.zeroValue85
  g1 := by kernel_rfl }
open Go.RowKit Go.Lib in
theorem Tryz.strings_Contains_one (s : ByteArray) (c : UInt8) (w : World) :
    Calls Tryz.prog 116 #[.string s, .string ⟨#[c]⟩] w fun e w' => e = .returned (.bool (decide (0 ≤ Lib.indexByte s.data.toList c))) ∧ w' = w := Any.strings_Contains_one Tryz.lays144 s c w
def Tryz.lays145_ren : Go.Shelf.Ren := ⟨fun | 145 => 154 | 220 => 175 | 219 => 174 | 217 => 160 | 225 => 136 | 224 => 135 | 267 => 193 | 266 => 182 | 314 => 202 | n => n, fun | 9 => 9 | 4 => 4 | 59 => 204 | 3 => 3 | 5 => 5 | 46 => 53 | 146 => 85 | 51 => 84 | n => n, fun | 1 => 0 | n => n⟩
theorem Tryz.lays145 : Go.Proofs.Lays.n145 Tryz.prog Tryz.lays145_ren := {
  mixed := by kernel_rfl
  f145 := Tryz.func154.trans (congrArg some (by kernel_rfl))
  f217 := Tryz.func160.trans (congrArg some (by kernel_rfl))
  f219 := Tryz.func174.trans (congrArg some (by kernel_rfl))
  f220 := Tryz.func175.trans (congrArg some (by kernel_rfl))
  f224 := Tryz.func135.trans (congrArg some (by kernel_rfl))
  f225 := Tryz.func136.trans (congrArg some (by kernel_rfl))
  f266 := Tryz.func182.trans (congrArg some (by kernel_rfl))
  f267 := Tryz.func193.trans (congrArg some (by kernel_rfl))
  f314 := Tryz.func202.trans (congrArg some (by kernel_rfl))
  t3 := Tryz.underlying3
  a3 := Tryz.isAgg3
  z3 := Tryz.sizeOf3
  v3 := Tryz.zeroValue3
  t4 := Tryz.underlying4
  a4 := Tryz.isAgg4
  z4 := Tryz.sizeOf4
  v4 := Tryz.zeroValue4
  t5 := Tryz.underlying5
  a5 := Tryz.isAgg5
  z5 := Tryz.sizeOf5
  v5 := Tryz.zeroValue5
  t9 := Tryz.underlying9
  a9 := Tryz.isAgg9
  z9 := Tryz.sizeOf9
  v9 := Tryz.zeroValue9
  t46 := Tryz.underlying53
  a46 := Tryz.isAgg53
  z46 := Tryz.sizeOf53
  v46 := Tryz.zeroValue53
  t51 := Tryz.underlying84
  a51 := Tryz.isAgg84
  z51 := Tryz.sizeOf84
  v51 := Tryz.zeroValue84
  t59 := Tryz.underlying204
  a59 := Tryz.isAgg204
  z59 := Tryz.sizeOf204
  v59 := Tryz.zeroValue204
  t146 := Tryz.underlying85
  a146 := Tryz.isAgg85
  z146 := Tryz.sizeOf85
  v146 := Tryz.zeroValue85
  g1 := by kernel_rfl }
open Go.RowKit Go.Lib in
theorem Tryz.strings_Cut (s sep : ByteArray) (m : Int) (w : World) (hs : s.size < 4294967281) (hm : w.cell? ⟨0, 0, none⟩ = some (.int .i64 m)) :
    Calls Tryz.prog 154 #[.string s, .string sep] w fun e w' => e = .returned (.tuple #[.string ⟨(Lib.cut s.data.toList sep.data.toList).1.toArray⟩, .string ⟨(Lib.cut s.data.toList sep.data.toList).2.1.toArray⟩, .bool (Lib.cut s.data.toList sep.data.toList).2.2]) ∧ ∃ n, w' = w.drewN n := Any.strings_Cut Tryz.lays145 s sep m w hs hm
def Tryz.lays105_ren : Go.Shelf.Ren := ⟨fun | 105 => 15 | 212 => 23 | 99 => 24 | 165 => 25 | 166 => 26 | 170 => 27 | 169 => 28 | 263 => 46 | 264 => 47 | 206 => 48 | 240 => 49 | 241 => 50 | 276 => 88 | 277 => 89 | n => n, fun | 9 => 9 | 3 => 3 | 4 => 4 | 20 => 20 | 0 => 0 | 46 => 53 | 109 => 54 | 5 => 5 | 72 => 59 | 76 => 63 | 51 => 84 | 146 => 85 | 53 => 87 | 148 => 88 | 70 => 57 | 37 => 41 | 75 => 62 | 127 => 90 | 164 => 128 | 80 => 66 | n => n, fun | n => n⟩
theorem Tryz.lays105 : Go.Proofs.Lays.n105 Tryz.prog Tryz.lays105_ren := {
  mixed := by kernel_rfl
  f99 := Tryz.func24.trans (congrArg some (by kernel_rfl))
  f105 := Tryz.func15.trans (congrArg some (by kernel_rfl))
  f165 := Tryz.func25.trans (congrArg some (by kernel_rfl))
  f166 := Tryz.func26.trans (congrArg some (by kernel_rfl))
  f169 := Tryz.func28.trans (congrArg some (by kernel_rfl))
  f170 := Tryz.func27.trans (congrArg some (by kernel_rfl))
  f206 := Tryz.func48.trans (congrArg some (by kernel_rfl))
  f212 := Tryz.func23.trans (congrArg some (by kernel_rfl))
  f240 := Tryz.func49.trans (congrArg some (by kernel_rfl))
  f241 := Tryz.func50.trans (congrArg some (by kernel_rfl))
  f263 := Tryz.func46.trans (congrArg some (by kernel_rfl))
  f264 := Tryz.func47.trans (congrArg some (by kernel_rfl))
  f276 := Tryz.func88.trans (congrArg some (by kernel_rfl))
  f277 := Tryz.func89.trans (congrArg some (by kernel_rfl))
  t0 := Tryz.underlying0
  a0 := Tryz.isAgg0
  z0 := Tryz.sizeOf0
  v0 := Tryz.zeroValue0
  t3 := Tryz.underlying3
  a3 := Tryz.isAgg3
  z3 := Tryz.sizeOf3
  v3 := Tryz.zeroValue3
  t4 := Tryz.underlying4
  a4 := Tryz.isAgg4
  z4 := Tryz.sizeOf4
  v4 := Tryz.zeroValue4
  t5 := Tryz.underlying5
  a5 := Tryz.isAgg5
  z5 := Tryz.sizeOf5
  v5 := Tryz.zeroValue5
  t9 := Tryz.underlying9
  a9 := Tryz.isAgg9
  z9 := Tryz.sizeOf9
  v9 := Tryz.zeroValue9
  t20 := Tryz.underlying20
  a20 := Tryz.isAgg20
  z20 := Tryz.sizeOf20
  v20 := Tryz.zeroValue20
  t37 := Tryz.underlying41
  a37 := Tryz.isAgg41
  z37 := Tryz.sizeOf41
  v37 := Tryz.zeroValue41
  t46 := Tryz.underlying53
  a46 := Tryz.isAgg53
  z46 := Tryz.sizeOf53
  v46 := Tryz.zeroValue53
  t51 := Tryz.underlying84
  a51 := Tryz.isAgg84
  z51 := Tryz.sizeOf84
  v51 := Tryz.zeroValue84
  t53 := Tryz.underlying87
  a53 := Tryz.isAgg87
  z53 := Tryz.sizeOf87
  v53 := Tryz.zeroValue87
  t70 := Tryz.underlying57
  a70 := Tryz.isAgg57
  z70 := Tryz.sizeOf57
  v70 := Tryz.zeroValue57
  t72 := Tryz.underlying59
  a72 := Tryz.isAgg59
  z72 := Tryz.sizeOf59
  v72 := Tryz.zeroValue59
  t75 := Tryz.underlying62
  a75 := Tryz.isAgg62
  z75 := Tryz.sizeOf62
  v75 := Tryz.zeroValue62
  t76 := Tryz.underlying63
  a76 := Tryz.isAgg63
  z76 := Tryz.sizeOf63
  v76 := Tryz.zeroValue63
  t109 := Tryz.underlying54
  a109 := Tryz.isAgg54
  z109 := Tryz.sizeOf54
  v109 := Tryz.zeroValue54
  t127 := Tryz.underlying90
  a127 := Tryz.isAgg90
  z127 := Tryz.sizeOf90
  v127 := Tryz.zeroValue90
  t146 := Tryz.underlying85
  a146 := Tryz.isAgg85
  z146 := Tryz.sizeOf85
  v146 := Tryz.zeroValue85
  t148 := Tryz.underlying88
  a148 := Tryz.isAgg88
  z148 := Tryz.sizeOf88
  v148 := Tryz.zeroValue88
  t164 := Tryz.underlying128
  a164 := Tryz.isAgg128
  z164 := Tryz.sizeOf128
  v164 := Tryz.zeroValue128 }
theorem Tryz.Builder_Extra_105 : Builder.Extra Tryz.prog Tryz.lays105_ren := {
  sizeBuilder := by kernel_rfl
  liesBuilder := by kernel_rfl
  t5 := Tryz.underlying5
  a5 := Tryz.isAgg5
  z5 := Tryz.sizeOf5
  v5 := Tryz.zeroValue5
  infoByte := by kernel_rfl
  cellsByte := by kernel_rfl
  sizeByte := by kernel_rfl
  neB5 := by decide }
open Go.RowKit Go.Lib in
theorem Tryz.strings_Repeat (s : ByteArray) (c : Nat) (w : World) (hc : c ≤ 9223372036854775807) (hlen : s.size * c ≤ 140737488355328) :
    Calls Tryz.prog 15 #[.string s, .int .i64 c] w fun e w' => e = .returned (.string ⟨(Lib.repeatL s.data.toList c).toArray⟩) ∧ Below w.heap.size w w' := Any.strings_Repeat Tryz.lays105 Tryz.Builder_Extra_105 s c w hc hlen
end Go.Proofs
namespace Go.Proofs.YtofnagdofpcmpaaGreatDoor.Abs
open Go Go.RowKit
theorem trim_spec (s : ByteArray) (c : UInt8) (hc : c.toNat < 128) (hs : s.size ≤ 9223372036854775807) (m : Mem) :
    Spec Tryz.prog 17 [.string s, .string (str [c])] m fun u M => u = .string (str (Lib.trimB s.data.toList c)) ∧ M = m :=
  Spec.of_below rfl fun ι w ys hy hr => by
    rw [flats_eq (by simp [flat]) hy]
    refine (Tryz.strings_Trim_one s c hc w hs).mono ?_
    rintro e w' ⟨rfl, rfl | rfl⟩
    · exact ⟨rfl, Below.refl _ _⟩
    · exact ⟨rfl, rfl, rfl, rfl, Nat.le_refl _, fun _ _ => rfl⟩
theorem repeat_spec (s : ByteArray) (c : Nat) (hc : c ≤ 9223372036854775807) (hlen : s.size * c ≤ 140737488355328) (m : Mem) :
    Spec Tryz.prog 15 [.string s, .int .i64 c] m fun u M => u = .string (str (Lib.repeatL s.data.toList c)) ∧ M = m :=
  Spec.of_below rfl fun ι w ys hy hr => by
    rw [flats_eq (by simp [flat]) hy]
    refine (Tryz.strings_Repeat s c w hc hlen).mono ?_
    rintro e w' ⟨rfl, hb⟩
    exact ⟨rfl, hb⟩
end Go.Proofs.YtofnagdofpcmpaaGreatDoor.Abs
namespace Go.Proofs.YtofnagdofpcmpaaGreatDoor
open Go.RowKit Abs
theorem inf_Str : Tryz.prog.info? 9 = some Tryz.t9 := by kernel_rfl
theorem sz_Str : Tryz.t9.size = 1 := rfl
theorem ld_Str (get : Nat → Option Blk) (b o : Nat) : gLoad Tryz.prog get 9 (.pointer (some ⟨b, o, none⟩)) = cellIn o (get b) := ld_cell Tryz.underlying9 rfl get b o
theorem undef_eq : undef = .tuple #[] := rfl
def zDk := And.intro (And.intro @ld_Str Tryz.underlying9) (And.intro Tryz.underlying22 @undef_eq)
end Go.Proofs.YtofnagdofpcmpaaGreatDoor
namespace Go.Proofs.YtofnagdofpcmpaaGreatDoor.Abs
open Go Go.RowKit
theorem join_spec (g : Nat) (ro : Bool) (xs : List ByteArray) (cap : Nat) (sep : ByteArray) (m : Mem) (hg : m.get g = some (.cells ro 1 (xs.map .string))) (h0 : xs ≠ []) (hN : xs.length ≤ 140737488355328)
    (hlen : (Lib.join (xs.map (·.data.toList)) sep.data.toList).length ≤ 140737488355328) :
    Spec Tryz.prog 16 [.slice (some ⟨g, 0, none⟩) xs.length cap, .string sep] m fun u M => u = .string (str (Lib.join (xs.map (·.data.toList)) sep.data.toList)) ∧ M = m :=
  Spec.of_below rfl fun ι w ys hy hr => by
    obtain ⟨a', b', rfl, ha, hb⟩ := vrels_two hy
    cases hb
    have hpos : 0 < xs.length := List.length_pos_iff.2 h0
    generalize hk : xs.length = k at ha
    cases ha with
    | empty _ _ p hlt => omega
    | slice _ _ _ _ cap' hlt hl hcc =>
      obtain ⟨C, e, fz, g1, g2, g3, g4, g5, g6⟩ := hr.at' _ _ _ _ hg
      rw [← hk]
      refine (Tryz.strings_Join (ι g).blk ((ι g).base + 0) cap' xs sep w (fun j x hx => ?_) (lt_of_heap g1) hN (by rcases hcc with hcc | hcc <;> omega) hlen).mono ?_
      · obtain ⟨_, v', h8, h9⟩ := g5 j (.string x) (by rw [List.getElem?_map, hx]; rfl)
        cases h9
        rw [cell_of_block g1, ← h8]
        congr 1
      · rintro e w' ⟨rfl, hb⟩
        exact ⟨rfl, hb⟩
end Go.Proofs.YtofnagdofpcmpaaGreatDoor.Abs
namespace Go.Proofs.YtofnagdofpcmpaaGreatDoor.Abs
open Go Go.RowKit
end Go.Proofs.YtofnagdofpcmpaaGreatDoor.Abs
namespace Go.Proofs.YtofnagdofpcmpaaGreatDoor
open Go.RowKit Abs
theorem cat_str (a b : List UInt8) : bcat (str a) (str b) = str (a ++ b) := by
  unfold bcat str
  simp
theorem siz_str (a : List UInt8) : bsize (str a) = a.length := rfl
end Go.Proofs.YtofnagdofpcmpaaGreatDoor
namespace Go.Proofs.YtofnagdofpcmpaaGreatDoor
open Go.RowKit Abs
theorem slice_to (get : Nat → Option Blk) (s : ByteArray) (k : Nat) (h : k ≤ s.size) : gSlice Tryz.prog get 9 (.string s) none (some (.int .i64 (k : Int))) = some (.string (str (s.data.toList.take k))) := by
  have hbs : bsize s = s.size := rfl
  unfold gSlice aBound
  simp only [Tryz.underlying9, hbs]
  rw [if_pos (by omega)]
  rfl
theorem slice_tail (get : Nat → Option Blk) (l : List UInt8) (a : Nat) (h : a ≤ l.length) :
    gSlice Tryz.prog get 9 (.string (str l)) (some (.int .i64 (a : Nat))) none = some (.string (str (l.drop a))) := by
  have hbs : bsize (str l) = l.length := rfl
  unfold gSlice aBound
  simp only [Tryz.underlying9, hbs]
  rw [if_pos (by omega)]
  show some (Value.string (str ((l.drop a).take (l.length - a)))) = _
  rw [List.take_of_length_le (by simp)]
end Go.Proofs.YtofnagdofpcmpaaGreatDoor
namespace Go.Proofs.YtofnagdofpcmpaaGreatDoor.Abs
open Go
theorem wri {x : Int} (h0 : -9223372036854775808 ≤ x) (h1 : x ≤ 9223372036854775807) : IntKind.i64.wrap x = x := by
  unfold IntKind.wrap; simp [IntKind.bits, IntKind.signed]; omega
theorem vMin_int (a b : Int) : vMin true [.int .i64 a, .int .i64 b] = some (.int .i64 (min a b)) := by
  simp only [vMin, evMin, aMin2]
  by_cases h : b < a
  · simp [h]; omega
  · simp [h]; omega
end Go.Proofs.YtofnagdofpcmpaaGreatDoor.Abs
namespace Go.Proofs.YtofnagdofpcmpaaGreatDoor
open Go.RowKit Abs
def encB (b : UInt8) : List Value := [byteV b]
abbrev BytesOwn (k : Nat) (M : Mem) (V : Value) (L : List UInt8) : Prop := OwnL encB 1 k M V L
theorem new_byte (x : Int) (b : UInt8) (h : x = (b.toNat : Int)) : nBuildSlice Tryz.prog 41 1 [(0, .int .u8 x)] = some (.cells false 1 (encB b)) := by
  subst h; exact new_u8 _
theorem byapp {k : Nat} {M : Mem} {V : Value} {L : List UInt8} (h : BytesOwn k M V L) (hk : k ≤ M.size) (hl : L.length ≤ 1000000) (x : UInt8) :
    ∃ M' V', aAppend Tryz.prog (M.push (.cells false 1 (encB x))) 41 41 V (.slice (some ⟨M.size, 0, none⟩) 1 1) = some (V', M') ∧ blkOf V' = some (M.size + 1) ∧ BytesOwn k M' V' (L ++ [x]) ∧
      M'.size = M.size + 2 ∧ (∀ b y, blkOf V ≠ some b → M.get b = some y → M'.get b = some y) :=
  oapp Tryz.underlying41 inf_u8 u8_zero u8_size rfl Tryz.underlying41 (fun _ => rfl) (by rw [u8_bytes]; decide) h hk hl x 1
theorem bytes_cells (L : List UInt8) : L.flatMap encB = bytesV L := flat_one byteV L
theorem BytesOwn.text {k : Nat} {M : Mem} {V : Value} {L : List UInt8} (h : BytesOwn k M V L) (h0 : L ≠ []) : gToString Tryz.prog M.get 41 9 V = some (.string (str L)) := by
  rcases h with ⟨h1, _⟩ | ⟨_, g, _, rfl, hg⟩
  · exact absurd h1 h0
  · rw [bytes_cells] at hg
    exact to_str hg rfl
def chunkAt (s : List UInt8) (i : Nat) : List UInt8 := (List.range 192).map fun j => s.getD (192 * i + j) 0
def chunksOf (s : List UInt8) : List (List UInt8) := (List.range ((s.length + 191) / 192)).map (chunkAt s)
theorem chunkAt_len (s : List UInt8) (i : Nat) : (chunkAt s i).length = 192 := by simp [chunkAt]
def encS (s : List UInt8) : List Value := [.string (str s)]
abbrev StrsOwn (k : Nat) (M : Mem) (V : Value) (L : List (List UInt8)) : Prop := OwnL encS 1 k M V L
theorem Str_zero : Tryz.t9.zero = some (.string ⟨#[]⟩) := rfl
theorem Str_bytes : Tryz.t9.bytes ≤ 1000 := by decide
theorem new_str1 (s : List UInt8) : nBuildSlice Tryz.prog 22 1 [(0, .string (str s))] = some (.cells false 1 (encS s)) := by kernel_rfl
theorem strapp {k : Nat} {M : Mem} {V : Value} {L : List (List UInt8)} (h : StrsOwn k M V L) (hk : k ≤ M.size) (hl : L.length ≤ 1000000) (x : List UInt8) :
    ∃ M' V', aAppend Tryz.prog (M.push (.cells false 1 (encS x))) 22 22 V (.slice (some ⟨M.size, 0, none⟩) 1 1) = some (V', M') ∧ blkOf V' = some (M.size + 1) ∧ StrsOwn k M' V' (L ++ [x]) ∧
      M'.size = M.size + 2 ∧ (∀ b y, blkOf V ≠ some b → M.get b = some y → M'.get b = some y) :=
  oapp Tryz.underlying22 inf_Str Str_zero sz_Str rfl Tryz.underlying22 (fun _ => rfl) Str_bytes h hk hl x 1
structure More (M M' : Mem) : Prop where
  get : ∀ b x, M.get b = some x → M'.get b = some x
  size : M.size ≤ M'.size
def SR (M : Mem) (V : Value) (L : List (List UInt8)) : Prop := ∃ a c, V = .slice a L.length c ∧ (L = [] → V = .slice none 0 0 ∨ a ≠ none) ∧ (0 < L.length → ∃ g ro, a = some ⟨g, 0, none⟩ ∧ M.get g = some (.cells ro 1 (L.flatMap encS)))
theorem SR.same {M M' : Mem} {V : Value} {L : List (List UInt8)} (h : SR M V L) (hs : ∀ b x, M.get b = some x → M'.get b = some x) : SR M' V L := by
  obtain ⟨a, c, h1, h0, h2⟩ := h
  refine ⟨a, c, h1, h0, fun h => ?_⟩
  obtain ⟨g, ro, h3, h4⟩ := h2 h
  exact ⟨g, ro, h3, hs _ _ h4⟩
theorem OwnL.sr {k : Nat} {M : Mem} {V : Value} {L : List (List UInt8)} (h : StrsOwn k M V L) : SR M V L := by
  rcases h with ⟨rfl, rfl⟩ | ⟨h0, g, _, rfl, hg⟩
  · exact ⟨none, 0, rfl, fun _ => .inl rfl, fun h => by simp at h⟩
  · exact ⟨_, _, rfl, fun e => absurd e h0, fun _ => ⟨g, false, rfl, hg⟩⟩
theorem encS_map (L : List (List UInt8)) : L.flatMap encS = L.map fun s => Value.string (str s) := flat_one (fun s => Value.string (str s)) L
theorem cell_S {L : List (List UInt8)} {i : Nat} {x : List UInt8} (hx : L[i]? = some x) : (L.flatMap encS)[i]? = some (.string (str x)) := by rw [encS_map, List.getElem?_map, hx]; rfl
theorem dropW_nil {p : UInt8 → Bool} : ∀ {l : List UInt8}, l.dropWhile p = [] ↔ ∀ b ∈ l, p b = true
  | [] => by simp
  | a :: l => by
    rw [List.dropWhile_cons]
    by_cases h : p a = true
    · rw [if_pos h, dropW_nil]
      simp [h]
    · rw [if_neg h]
      simp [h]
theorem trim0_iff (l : List UInt8) : Lib.trimB l 0 = [] ↔ ∀ b ∈ l, b = 0 := by
  unfold Lib.trimB Lib.trimLeftB Lib.trimRightB
  rw [dropW_nil]
  constructor
  · intro h b hb
    by_cases hz : l.reverse.dropWhile (· == 0) = []
    · have := dropW_nil.1 hz b (by simpa using hb)
      simpa using this
    · exfalso
      have hm : (l.reverse.dropWhile (· == 0)).head hz ∈ (l.reverse.dropWhile (· == 0)).reverse := by simp
      have h1 := h _ hm
      have h2 := List.head_dropWhile_not (· == (0 : UInt8)) (w := hz)
      rw [h2] at h1
      cases h1
  · intro h b hb
    rw [List.mem_reverse] at hb
    have := List.dropWhile_sublist (· == (0 : UInt8)) (l := l.reverse) |>.subset hb
    rw [List.mem_reverse] at this
    simp [h b this]
def joinV (n : Int) (L : List (List UInt8)) : List UInt8 × Int :=
  if n < 0 ∨ 49152 < n ∨ (n + 191) / 192 ≠ (L.length : Int) then ([], 1) else if (L.all fun s => decide (s.length = 192)) = false then ([], 1) else
  if Lib.trimB (L.flatten.drop n.toNat) 0 ≠ [] then ([], 2) else (L.flatten.take n.toNat, 0)
theorem flat_len {L : List (List UInt8)} (h : ∀ s ∈ L, s.length = 192) : L.flatten.length = 192 * L.length := by
  induction L with
  | nil => rfl
  | cons x r ih =>
    rw [List.flatten_cons, List.length_append, ih fun s hs => h s (List.mem_cons_of_mem _ hs), h x List.mem_cons_self, List.length_cons]
    omega
theorem chunkAt_eq (s : List UInt8) (i : Nat) : chunkAt s i = (s.drop (192 * i)).take 192 ++ List.replicate (192 - ((s.drop (192 * i)).take 192).length) 0 := by
  apply List.ext_getElem?
  intro j
  unfold chunkAt
  rw [List.getElem?_map, List.getElem?_append]
  have hl : ((s.drop (192 * i)).take 192).length = min 192 (s.length - 192 * i) := by simp
  rw [hl]
  by_cases hj : j < 192
  · rw [List.getElem?_range hj]
    simp only [Option.map_some]
    by_cases h2 : j < min 192 (s.length - 192 * i)
    · rw [if_pos h2, List.getElem?_take, if_pos hj, List.getElem?_drop, List.getD_eq_getElem?_getD, List.getElem?_eq_getElem (by omega)]
      rfl
    · rw [if_neg h2, List.getElem?_replicate, if_pos (by omega), List.getD_eq_getElem?_getD, List.getElem?_eq_none (by omega)]
      rfl
  · rw [List.getElem?_eq_none (by simp; omega), if_neg (by omega), List.getElem?_replicate, if_neg (by omega)]
    rfl
theorem flat_chunks (s : List UInt8) : ∀ n, ((List.range n).map (chunkAt s)).flatten = (List.range (192 * n)).map fun j => s.getD j 0
  | 0 => rfl
  | n + 1 => by
    rw [List.range_succ, List.map_append, List.flatten_append, flat_chunks s n]
    have e : 192 * (n + 1) = 192 * n + 192 := by omega
    rw [e, List.range_add, List.map_append, List.map_map]
    congr 1
theorem join_chunks (s : List UInt8) (h : s.length ≤ 49152) : joinV (s.length : Nat) (chunksOf s) = (s, 0) := by
  have hl : (chunksOf s).length = (s.length + 191) / 192 := by simp [chunksOf]
  have hf : (chunksOf s).flatten = (List.range (192 * ((s.length + 191) / 192))).map fun j => s.getD j 0 := flat_chunks s _
  unfold joinV
  rw [if_neg (by rw [hl]; omega), if_neg, hf]
  · have hd : Lib.trimB (((List.range (192 * ((s.length + 191) / 192))).map fun j => s.getD j 0).drop ((s.length : Nat) : Int).toNat) 0 = [] := by
      rw [trim0_iff]
      intro b hb
      obtain ⟨j, hj⟩ := List.getElem?_of_mem hb
      rw [Int.toNat_natCast, List.getElem?_drop, List.getElem?_map] at hj
      by_cases hj2 : s.length + j < 192 * ((s.length + 191) / 192)
      · rw [List.getElem?_range hj2] at hj
        simp only [Option.map_some, Option.some.injEq] at hj
        rw [← hj, List.getD_eq_getElem?_getD, List.getElem?_eq_none (by omega)]
        rfl
      · rw [List.getElem?_eq_none (by simp; omega)] at hj; cases hj
    rw [if_neg (by rw [hd]; simp), Int.toNat_natCast]
    congr 1
    apply List.ext_getElem?
    intro j
    rw [List.getElem?_take]
    by_cases hj : j < s.length
    · rw [if_pos hj, List.getElem?_map, List.getElem?_range (by omega)]
      simp only [Option.map_some]
      rw [List.getD_eq_getElem?_getD, List.getElem?_eq_getElem hj]
      rfl
    · rw [if_neg hj, List.getElem?_eq_none (by omega)]
  · rw [Bool.not_eq_false, List.all_eq_true]
    intro x hx
    unfold chunksOf at hx
    obtain ⟨i, _, rfl⟩ := List.mem_map.1 hx
    exact decide_eq_true (chunkAt_len s i)
end Go.Proofs.YtofnagdofpcmpaaGreatDoor
namespace Go.Proofs.YtofnagdofpcmpaaGreatDoor
open Go.RowKit Abs
def chunkUpto (s : List UInt8) (i t : Nat) : List UInt8 := (List.range t).map fun j => s.getD (192 * i + j) 0
theorem chunkUpto_succ (s : List UInt8) (i t : Nat) : chunkUpto s i t ++ [s.getD (192 * i + t) 0] = chunkUpto s i (t + 1) := by
  unfold chunkUpto
  rw [List.range_succ, List.map_append]
  rfl
theorem chunks_succ (s : List UInt8) (i : Nat) : (List.range i).map (chunkAt s) ++ [chunkAt s i] = (List.range (i + 1)).map (chunkAt s) := by
  rw [List.range_succ, List.map_append]
  rfl
set_option maxRecDepth 100000 in
set_option maxHeartbeats 8000000 in
theorem rsplit_spec (s : List UInt8) (hs : s.length ≤ 100000) (M : Mem) :
    Abs.Spec Tryz.prog 9 [.string (str s)] M fun u M' => StrsOwn M.size M' u (chunksOf s) ∧ More M M' := by
  have hbs : bsize (str s) = s.length := rfl
  refine Abs.Spec.walkM Tryz.func9 (by rfl) _ Tryz.results9 _ Tryz.ntmps9 (by simp) ?_
  intro _ _ _
  refine CW_seq (CW_region ?_)
  simp only [zZ, reduceIte, Nat.reduceLT, Int.reduceToNat, Int.reduceLE, Int.reduceEq, Int.reduceLT, Nat.reduceEqDiff, Nat.reduceAdd, zDk]
  refine CW_seq (CW_region ?_)
  simp only [zZ, reduceIte, Nat.reduceLT, Int.reduceToNat, Int.reduceLE, Int.reduceEq, Int.reduceLT, Nat.reduceEqDiff, Nat.reduceAdd, zDk]
  refine CW_seq (CW_seq (CW_region ?_))
  simp only [zZ, reduceIte, Nat.reduceLT, Int.reduceToNat, Int.reduceLE, Int.reduceEq, Int.reduceLT, Nat.reduceEqDiff, Nat.reduceAdd, zDk]
  refine CW_block (MW_loop (fun j f M' => ∃ (i : Nat) (V : Value), j = s.length - 192 * i ∧ f = [(0, .string (str s)), (3, V), (4, .int .i64 ((192 * i : Nat) : Int))] ∧ 192 * i ≤ s.length + 191 ∧
    StrsOwn M.size M' V ((List.range i).map (chunkAt s)) ∧ (∀ b x, b < M.size → M.get b = some x → M'.get b = some x) ∧ M.size ≤ M'.size) s.length ?_ ?_)
  · refine ⟨[0, 3, 4], ?_⟩
    simp only [zZ, reduceIte, Nat.reduceLT, Int.reduceToNat, Int.reduceLE, Int.reduceEq, Int.reduceLT, Nat.reduceEqDiff, Nat.reduceAdd, keepF]
    exact ⟨M, Thin.refl _, 0, _, rfl, rfl, by omega, OwnL.nil _ _, fun _ _ _ h => h, Nat.le_refl _⟩
  · rintro j f M' ⟨i, V, rfl, rfl, hi, hown, hold, hsz⟩
    refine CW_seq (CW_seq (CW_region ?_))
    simp only [zZ, reduceIte, Nat.reduceLT, Int.reduceToNat, Int.reduceLE, Int.reduceEq, Int.reduceLT, Nat.reduceEqDiff, Nat.reduceAdd, zDk, hbs]
    refine CW_cond (decide (((192 * i : Nat) : Int) < ((s.length : Nat) : Int))) (by rfl) (fun hq => CW_skip ?_) (fun hq => CW_exit ?_)
    · have hiL : 192 * i < s.length := by have := of_decide_eq_true hq; omega
      have w192 : IntKind.i64.wrap (((192 * i : Nat) : Int) + 192) = ((192 * (i + 1) : Nat) : Int) := by rw [wri (by omega) (by omega)]; omega
      simp only [zZ, reduceIte, Nat.reduceLT, Int.reduceToNat, Int.reduceLE, Int.reduceEq, Int.reduceLT, Nat.reduceEqDiff, Nat.reduceAdd, zDk]
      refine CW_seq (CW_block (CW_seq (CW_region ?_)))
      simp only [zZ, reduceIte, Nat.reduceLT, Int.reduceToNat, Int.reduceLE, Int.reduceEq, Int.reduceLT, Nat.reduceEqDiff, Nat.reduceAdd, zDk]
      refine MW_mid (fun f M2 => ∃ B, f = [(0, .string (str s)), (3, V), (4, .int .i64 ((192 * i : Nat) : Int)), (5, B)] ∧ BytesOwn M'.size M2 B (chunkAt s i) ∧ (∀ b x, b < M'.size → M'.get b = some x → M2.get b = some x) ∧ M'.size ≤ M2.size) ?_ ?_
      · refine CW_seq (CW_region ?_)
        simp only [zZ, reduceIte, Nat.reduceLT, Int.reduceToNat, Int.reduceLE, Int.reduceEq, Int.reduceLT, Nat.reduceEqDiff, Nat.reduceAdd, zDk]
        refine CW_block (MW_loop (fun jj f M2 => ∃ (t : Nat) (B : Value), jj = 192 - t ∧ f = [(0, .string (str s)), (3, V), (4, .int .i64 ((192 * i : Nat) : Int)), (5, B), (6, .int .i64 ((192 * i + t : Nat) : Int))] ∧ t ≤ 192 ∧
          BytesOwn M'.size M2 B (chunkUpto s i t) ∧ (∀ b x, b < M'.size → M'.get b = some x → M2.get b = some x) ∧ M'.size ≤ M2.size) 192 ?_ ?_)
        · refine ⟨[0, 3, 4, 5, 6], ?_⟩
          simp only [zZ, reduceIte, Nat.reduceLT, Int.reduceToNat, Int.reduceLE, Int.reduceEq, Int.reduceLT, Nat.reduceEqDiff, Nat.reduceAdd, keepF]
          exact ⟨M', Thin.refl _, 0, _, rfl, rfl, by omega, OwnL.nil _ _, fun _ _ _ h => h, Nat.le_refl _⟩
        · rintro jj f M2 ⟨t, B, rfl, rfl, ht, hb, hold2, hsz2⟩
          refine CW_seq (CW_seq (CW_region ?_))
          simp only [zZ, reduceIte, Nat.reduceLT, Int.reduceToNat, Int.reduceLE, Int.reduceEq, Int.reduceLT, Nat.reduceEqDiff, Nat.reduceAdd, zDk, w192]
          refine CW_cond (decide (((192 * i + t : Nat) : Int) < ((192 * (i + 1) : Nat) : Int))) (by rfl) (fun hq => CW_skip ?_) (fun hq => CW_exit ?_)
          · have ht2 : t < 192 := by have := of_decide_eq_true hq; omega
            have w1 : IntKind.i64.wrap (((192 * i + t : Nat) : Int) + 1) = ((192 * i + (t + 1) : Nat) : Int) := by rw [wri (by omega) (by omega)]; omega
            obtain ⟨M4, V4, ap4, hb4, hown4, hs4, hold4⟩ := byapp hb hsz2 (by unfold chunkUpto; rw [List.length_map, List.length_range]; omega) (s.getD (192 * i + t) 0)
            rw [chunkUpto_succ] at hown4
            simp only [zZ, reduceIte, Nat.reduceLT, Int.reduceToNat, Int.reduceLE, Int.reduceEq, Int.reduceLT, Nat.reduceEqDiff, Nat.reduceAdd, zDk]
            refine CW_seq (CW_block (CW_seq (CW_region ?_)))
            simp only [zZ, reduceIte, Nat.reduceLT, Int.reduceToNat, Int.reduceLE, Int.reduceEq, Int.reduceLT, Nat.reduceEqDiff, Nat.reduceAdd, zDk, hbs]
            refine CW_cond (decide (((192 * i + t : Nat) : Int) < ((s.length : Nat) : Int))) (by rfl) (fun hq => CW_region ?_) (fun hq => CW_region ?_)
            · have hit : 192 * i + t < s.length := by have := of_decide_eq_true hq; omega
              have ix := index_str (str s) _ (192 * i + t) rfl (by rw [str_size]; exact hit)
              have nb := new_byte _ (s.getD (192 * i + t) 0) rfl
              have e1 : (str s).data.toList = s := rfl
              rw [e1] at ix
              simp only [zZ, reduceIte, Nat.reduceLT, Int.reduceToNat, Int.reduceLE, Int.reduceEq, Int.reduceLT, Nat.reduceEqDiff, Nat.reduceAdd, zDk, ix, nb, ap4]
              refine CW_region ?_
              simp only [zZ, reduceIte, Nat.reduceLT, Int.reduceToNat, Int.reduceLE, Int.reduceEq, Int.reduceLT, Nat.reduceEqDiff, Nat.reduceAdd, zDk, w1]
              refine ⟨[0, 3, 4, 5, 6], ?_⟩
              simp only [zZ, reduceIte, Nat.reduceLT, Int.reduceToNat, Int.reduceLE, Int.reduceEq, Int.reduceLT, Nat.reduceEqDiff, Nat.reduceAdd, keepF]
              exact ⟨_, Thin.refl _, 192 - (t + 1), ⟨t + 1, V4, rfl, rfl, by omega, hown4, fun b y hbl hy => hold4 b y (fun e => by have := (hb.live e).1; omega) (hold2 b y hbl hy), by omega⟩, by omega⟩
            · have hit : s.length ≤ 192 * i + t := by have := of_decide_eq_false hq; omega
              have nb := new_byte 0 (s.getD (192 * i + t) 0) (by rw [List.getD_eq_getElem?_getD, List.getElem?_eq_none hit]; rfl)
              simp only [zZ, reduceIte, Nat.reduceLT, Int.reduceToNat, Int.reduceLE, Int.reduceEq, Int.reduceLT, Nat.reduceEqDiff, Nat.reduceAdd, zDk, nb, ap4]
              refine CW_region ?_
              simp only [zZ, reduceIte, Nat.reduceLT, Int.reduceToNat, Int.reduceLE, Int.reduceEq, Int.reduceLT, Nat.reduceEqDiff, Nat.reduceAdd, zDk, w1]
              refine ⟨[0, 3, 4, 5, 6], ?_⟩
              simp only [zZ, reduceIte, Nat.reduceLT, Int.reduceToNat, Int.reduceLE, Int.reduceEq, Int.reduceLT, Nat.reduceEqDiff, Nat.reduceAdd, keepF]
              exact ⟨_, Thin.refl _, 192 - (t + 1), ⟨t + 1, V4, rfl, rfl, by omega, hown4, fun b y hbl hy => hold4 b y (fun e => by have := (hb.live e).1; omega) (hold2 b y hbl hy), by omega⟩, by omega⟩
          · obtain rfl : t = 192 := by have := of_decide_eq_false hq; omega
            refine ⟨[0, 3, 4, 5], ?_⟩
            simp only [zZ, reduceIte, Nat.reduceLT, Int.reduceToNat, Int.reduceLE, Int.reduceEq, Int.reduceLT, Nat.reduceEqDiff, Nat.reduceAdd, keepF]
            exact ⟨M2, Thin.refl _, B, rfl, hb, hold2, hsz2⟩
      rintro _ M2 ⟨B, rfl, hb, hold2, hsz2⟩
      have tx := hb.text (fun e => by have := chunkAt_len s i; rw [e] at this; cases this)
      have hown2 : StrsOwn M.size M2 V ((List.range i).map (chunkAt s)) := by
        exact hown.same fun b y _ hy => hold2 b y (Mem.get_lt hy) hy
      obtain ⟨aB, cB, rfl⟩ := hb.len
      have nw := new_str1 (chunkAt s i)
      obtain ⟨M4, V4, ap4, hb4, hown4, hs4, hold4⟩ := strapp hown2 (by omega) (by rw [List.length_map, List.length_range]; omega) (chunkAt s i)
      rw [chunks_succ] at hown4
      refine CW_region ?_
      simp only [zZ, reduceIte, Nat.reduceLT, Int.reduceToNat, Int.reduceLE, Int.reduceEq, Int.reduceLT, Nat.reduceEqDiff, Nat.reduceAdd, zDk, tx, nw, ap4]
      refine CW_region ?_
      simp only [zZ, reduceIte, Nat.reduceLT, Int.reduceToNat, Int.reduceLE, Int.reduceEq, Int.reduceLT, Nat.reduceEqDiff, Nat.reduceAdd, zDk, w192]
      refine ⟨[0, 3, 4], ?_⟩
      simp only [zZ, reduceIte, Nat.reduceLT, Int.reduceToNat, Int.reduceLE, Int.reduceEq, Int.reduceLT, Nat.reduceEqDiff, Nat.reduceAdd, keepF]
      exact ⟨_, Thin.refl _, s.length - 192 * (i + 1), ⟨i + 1, V4, rfl, rfl, by omega, hown4, fun b y hbl hy => hold4 b y (fun e => by have := (hown2.live e).1; omega) (hold2 b y (by omega) (hold b y hbl hy)), by omega⟩, by omega⟩
    · have hiL : s.length ≤ 192 * i := by have := of_decide_eq_false hq; omega
      have hi2 : i = (s.length + 191) / 192 := by omega
      simp only [zZ, reduceIte, Nat.reduceLT, Int.reduceToNat, Int.reduceLE, Int.reduceEq, Int.reduceLT, Nat.reduceEqDiff, Nat.reduceAdd, zDk]
      refine CW_seq (CW_region ?_)
      simp only [zZ, reduceIte, Nat.reduceLT, Int.reduceToNat, Int.reduceLE, Int.reduceEq, Int.reduceLT, Nat.reduceEqDiff, Nat.reduceAdd, zDk]
      refine CW_ret ?_
      simp only [zZ, reduceIte, Nat.reduceLT, Int.reduceToNat, Int.reduceLE, Int.reduceEq, Int.reduceLT, Nat.reduceEqDiff, Nat.reduceAdd, zDk, mEnd, sAnswer, sAnswer.sRes]
      exact ⟨M', Thin.refl _, by unfold chunksOf; rw [← hi2]; exact hown, fun b x hb => hold b x (Mem.get_lt hb) hb, hsz⟩
end Go.Proofs.YtofnagdofpcmpaaGreatDoor
namespace Go.Proofs.YtofnagdofpcmpaaGreatDoor
open Go.RowKit Abs
theorem drop_step (s : List UInt8) (a k : Nat) : (s.drop a).drop (min k (s.drop a).length) = s.drop (a + k) := by
  rw [List.drop_drop]
  apply List.ext_getElem?
  intro j
  rw [List.getElem?_drop, List.getElem?_drop, List.length_drop]
  by_cases h : k ≤ s.length - a
  · rw [Nat.min_eq_left h]
  · rw [Nat.min_eq_right (by omega), List.getElem?_eq_none (by omega), List.getElem?_eq_none (by omega)]
theorem rep_zero (n : Nat) : Lib.repeatL [(0 : UInt8)] n = List.replicate n 0 := by
  induction n with
  | zero => rfl
  | succ n ih => rw [List.replicate_succ, ← ih]; simp [Lib.repeatL]
theorem not_nil (s : List UInt8) (a : Nat) : (!beqB (str (s.drop a)) ⟨#[]⟩) = decide (a < s.length) := by
  have e : beqB (str (s.drop a)) ⟨#[]⟩ = (s.drop a == []) := rfl
  rw [e]
  by_cases h : a < s.length
  · rw [decide_eq_true h]
    cases hd : s.drop a with
    | nil => have := congrArg List.length hd; rw [List.length_drop] at this; simp at this; omega
    | cons x r => rfl
  · rw [decide_eq_false h, List.drop_eq_nil_of_le (by omega)]; rfl
set_option maxRecDepth 100000 in
set_option maxHeartbeats 8000000 in
theorem split_spec (s : List UInt8) (hs : s.length ≤ 100000) (M : Mem) :
    Abs.Spec Tryz.prog 6 [.string (str s)] M fun u M' => StrsOwn M.size M' u (chunksOf s) ∧ More M M' := by
  refine Abs.Spec.walkM Tryz.func6 (by rfl) _ Tryz.results6 _ Tryz.ntmps6 (by simp) ?_
  intro _ _ _
  refine CW_seq (CW_region ?_)
  simp only [zZ, reduceIte, Nat.reduceLT, Int.reduceToNat, Int.reduceLE, Int.reduceEq, Int.reduceLT, Nat.reduceEqDiff, Nat.reduceAdd, zDk]
  refine CW_seq (CW_region ?_)
  simp only [zZ, reduceIte, Nat.reduceLT, Int.reduceToNat, Int.reduceLE, Int.reduceEq, Int.reduceLT, Nat.reduceEqDiff, Nat.reduceAdd, zDk]
  refine CW_seq (CW_block (MW_loop (fun j f M' => ∃ (i : Nat) (V : Value), j = s.length - 192 * i ∧ f = [(0, .string (str (s.drop (192 * i)))), (3, V)] ∧ 192 * i ≤ s.length + 191 ∧
    StrsOwn M.size M' V ((List.range i).map (chunkAt s)) ∧ (∀ b x, b < M.size → M.get b = some x → M'.get b = some x) ∧ M.size ≤ M'.size) s.length ?_ ?_))
  · refine ⟨[0, 3], ?_⟩
    simp only [zZ, reduceIte, Nat.reduceLT, Int.reduceToNat, Int.reduceLE, Int.reduceEq, Int.reduceLT, Nat.reduceEqDiff, Nat.reduceAdd, keepF]
    exact ⟨M, Thin.refl _, 0, _, rfl, rfl, by omega, OwnL.nil _ _, fun _ _ _ h => h, Nat.le_refl _⟩
  · rintro j f M' ⟨i, V, rfl, rfl, hi, hown, hold, hsz⟩
    have hbs : bsize (str (s.drop (192 * i))) = s.length - 192 * i := by rw [siz_str, List.length_drop]
    have hdl : (s.drop (192 * i)).length = s.length - 192 * i := List.length_drop
    have hnn := not_nil s (192 * i)
    refine CW_seq (CW_seq (CW_region ?_))
    simp only [zZ, reduceIte, Nat.reduceLT, Int.reduceToNat, Int.reduceLE, Int.reduceEq, Int.reduceLT, Nat.reduceEqDiff, Nat.reduceAdd, zDk, hbs, hnn]
    refine CW_cond (decide (192 * i < s.length)) (by rfl) (fun hq => CW_skip ?_) (fun hq => CW_exit ?_)
    · have hiL : 192 * i < s.length := of_decide_eq_true hq
      have mn : min (192 : Int) ((s.length - 192 * i : Nat) : Int) = ((min 192 (s.length - 192 * i) : Nat) : Int) := by omega
      have st := slice_to M'.get (str (s.drop (192 * i))) (min 192 (s.length - 192 * i)) (by rw [str_size, hdl]; exact Nat.min_le_right _ _)
      have e1 : (str (s.drop (192 * i))).data.toList = s.drop (192 * i) := rfl
      rw [e1] at st
      have hcl : ((s.drop (192 * i)).take (min 192 (s.length - 192 * i))).length = min 192 (s.length - 192 * i) := by rw [List.length_take, hdl]; omega
      have hbc : bsize (str ((s.drop (192 * i)).take (min 192 (s.length - 192 * i)))) = min 192 (s.length - 192 * i) := hcl
      have wd : IntKind.i64.wrap (192 - ((min 192 (s.length - 192 * i) : Nat) : Int)) = ((192 - min 192 (s.length - 192 * i) : Nat) : Int) := by rw [wri (by omega) (by omega)]; omega
      have ec : (s.drop (192 * i)).take (min 192 (s.length - 192 * i)) ++ List.replicate (192 - min 192 (s.length - 192 * i)) 0 = chunkAt s i := by
        rw [chunkAt_eq]
        have e2 : (s.drop (192 * i)).take (min 192 (s.length - 192 * i)) = (s.drop (192 * i)).take 192 := by
          apply List.ext_getElem?
          intro j
          rw [List.getElem?_take, List.getElem?_take]
          by_cases h1 : j < min 192 (s.length - 192 * i)
          · rw [if_pos h1, if_pos (by omega)]
          · rw [if_neg h1]
            by_cases h2 : j < 192
            · rw [if_pos h2, List.getElem?_eq_none (by omega)]
            · rw [if_neg h2]
        rw [← e2, hcl]
      simp only [zZ, reduceIte, Nat.reduceLT, Int.reduceToNat, Int.reduceLE, Int.reduceEq, Int.reduceLT, Nat.reduceEqDiff, Nat.reduceAdd, zDk]
      refine CW_seq (CW_block (CW_seq (CW_region ?_)))
      simp only [zZ, reduceIte, Nat.reduceLT, Int.reduceToNat, Int.reduceLE, Int.reduceEq, Int.reduceLT, Nat.reduceEqDiff, Nat.reduceAdd, zDk, hbs, vMin_int, mn, st]
      have rp := fun m => repeat_spec ⟨#[0]⟩ (192 - min 192 (s.length - 192 * i)) (by omega) (by show 1 * _ ≤ _; omega) m
      have er : Lib.repeatL (⟨#[0]⟩ : ByteArray).data.toList (192 - min 192 (s.length - 192 * i)) = List.replicate (192 - min 192 (s.length - 192 * i)) 0 := rep_zero _
      rw [er] at rp
      obtain ⟨M4, V4, ap4, hb4, hown4, hs4, hold4⟩ := strapp hown hsz (by rw [List.length_map, List.length_range]; omega) (chunkAt s i)
      rw [chunks_succ] at hown4
      have nw := new_str1 (chunkAt s i)
      have cs := cat_str ((s.drop (192 * i)).take (min 192 (s.length - 192 * i))) (List.replicate (192 - min 192 (s.length - 192 * i)) 0)
      rw [ec] at cs
      refine CW_region ?_
      simp only [zZ, reduceIte, Nat.reduceLT, Int.reduceToNat, Int.reduceLE, Int.reduceEq, Int.reduceLT, Nat.reduceEqDiff, Nat.reduceAdd, zDk, hbc, wd]
      refine ⟨by kernel_rfl, _, rp _, ?_⟩
      rintro _ M9 ⟨rfl, e9⟩; replace e9 := e9.symm; subst e9
      simp only [zZ, reduceIte, Nat.reduceLT, Int.reduceToNat, Int.reduceLE, Int.reduceEq, Int.reduceLT, Nat.reduceEqDiff, Nat.reduceAdd, zDk, cs, nw, ap4]
      have sl := slice_tail M4.get (s.drop (192 * i)) (min 192 (s.length - 192 * i)) (by rw [hdl]; exact Nat.min_le_right _ _)
      have dr := drop_step s (192 * i) 192
      rw [hdl] at dr
      rw [dr, show 192 * i + 192 = 192 * (i + 1) by omega] at sl
      refine ⟨by rw [siz_str, siz_str, hcl, List.length_replicate]; omega, ?_⟩
      refine CW_region ?_
      simp only [zZ, reduceIte, Nat.reduceLT, Int.reduceToNat, Int.reduceLE, Int.reduceEq, Int.reduceLT, Nat.reduceEqDiff, Nat.reduceAdd, zDk, hbs, vMin_int, mn, sl]
      refine ⟨[0, 3], ?_⟩
      simp only [zZ, reduceIte, Nat.reduceLT, Int.reduceToNat, Int.reduceLE, Int.reduceEq, Int.reduceLT, Nat.reduceEqDiff, Nat.reduceAdd, keepF]
      exact ⟨_, Thin.refl _, s.length - 192 * (i + 1), ⟨i + 1, V4, rfl, rfl, by omega, hown4, fun b y hbl hy => hold4 b y (fun e => by have := (hown.live e).1; omega) (hold b y hbl hy), by omega⟩, by omega⟩
    · have hiL : s.length ≤ 192 * i := by have := of_decide_eq_false hq; omega
      have hi2 : i = (s.length + 191) / 192 := by omega
      simp only [zZ, reduceIte, Nat.reduceLT, Int.reduceToNat, Int.reduceLE, Int.reduceEq, Int.reduceLT, Nat.reduceEqDiff, Nat.reduceAdd, zDk]
      refine CW_seq (CW_region ?_)
      simp only [zZ, reduceIte, Nat.reduceLT, Int.reduceToNat, Int.reduceLE, Int.reduceEq, Int.reduceLT, Nat.reduceEqDiff, Nat.reduceAdd, zDk]
      refine CW_ret ?_
      simp only [zZ, reduceIte, Nat.reduceLT, Int.reduceToNat, Int.reduceLE, Int.reduceEq, Int.reduceLT, Nat.reduceEqDiff, Nat.reduceAdd, zDk, mEnd, sAnswer, sAnswer.sRes]
      exact ⟨M', Thin.refl _, by unfold chunksOf; rw [← hi2]; exact hown, fun b x hb => hold b x (Mem.get_lt hb) hb, hsz⟩
end Go.Proofs.YtofnagdofpcmpaaGreatDoor
namespace Go.Proofs.YtofnagdofpcmpaaGreatDoor
open Go.RowKit Abs
theorem join_flat (xs : List (List UInt8)) : Lib.join xs [] = xs.flatten := by
  cases xs with
  | nil => rfl
  | cons x r => rw [Lib.join_cons]; simp [Lib.joinTail]
theorem joinL_spec {M : Mem} {V : Value} {L : List (List UInt8)} (h : SR M V L) (hL : L.length ≤ 300) (hx : ∀ s ∈ L, s.length = 192) :
    Abs.Spec Tryz.prog 16 [V, .string ⟨#[]⟩] M fun u M' => u = .string (str L.flatten) ∧ M' = M := by
  have hfl := flat_len hx
  obtain ⟨a, c, rfl, h0, h2⟩ := h
  rcases L with _ | ⟨x, r⟩
  · exact Abs.Spec.of_below rfl fun ι w ys hy hr => by
      obtain ⟨a', b', rfl, ha, hb⟩ := vrels_two hy
      cases hb
      have : ∃ p c', a' = .slice p 0 c' := by cases ha <;> exact ⟨_, _, rfl⟩
      obtain ⟨p, c', rfl⟩ := this
      refine (Tryz.strings_Join_none p c' _ w).mono ?_
      rintro e w' ⟨rfl, rfl⟩
      exact ⟨rfl, Below.refl _ _⟩
  · obtain ⟨g, ro, rfl, hg⟩ := h2 (by simp)
    have e1 : ((x :: r).map str).map (·.data.toList) = x :: r := by
      rw [List.map_map]
      exact List.map_id' _
    have e2 : Lib.join (((x :: r).map str).map (·.data.toList)) (⟨#[]⟩ : ByteArray).data.toList = (x :: r).flatten := by rw [e1]; exact join_flat _
    have k := join_spec g ro ((x :: r).map str) c ⟨#[]⟩ M (by rw [hg, encS_map, List.map_map]; rfl) (by simp) (by rw [List.length_map]; omega) (by rw [e2, hfl]; omega)
    rw [e2, List.length_map] at k
    exact k
theorem SR.cell {M : Mem} {a : Option Addr} {n c : Nat} {L : List (List UInt8)} (h : SR M (.slice a n c) L) {i : Nat} {x : List UInt8} (hx : L[i]? = some x) :
    ∃ g ro, a = some ⟨g, 0, none⟩ ∧ M.get g = some (.cells ro 1 (L.flatMap encS)) ∧ (L.flatMap encS)[i]? = some (.string (str x)) := by
  obtain ⟨a', c', e, _, h4⟩ := h
  cases e
  have hi : i < L.length := by rcases Nat.lt_or_ge i L.length with h | h; exact h; rw [List.getElem?_eq_none h] at hx; cases hx
  obtain ⟨g, ro, h5, h6⟩ := h4 (by omega)
  exact ⟨g, ro, h5, h6, cell_S hx⟩
theorem beqB_strs (a b : List UInt8) : beqB (str a) (str b) = decide (a = b) := by
  rw [beqB_dec, decide_eq_decide]
  exact ⟨fun h => congrArg (fun x => x.data.toList) h, fun h => by rw [h]⟩
theorem joinV_bad {n : Int} {L : List (List UInt8)} (h : n < 0 ∨ 49152 < n ∨ (n + 191) / 192 ≠ (L.length : Int)) : joinV n L = ([], 1) := if_pos h
theorem joinV_short {n : Int} {L : List (List UInt8)} {x : List UInt8} (hx : x ∈ L) (h : x.length ≠ 192) : joinV n L = ([], 1) := by
  unfold joinV
  have e : (L.all fun s => decide (s.length = 192)) = false := by
    cases hb : L.all fun s => decide (s.length = 192) with
    | false => rfl
    | true => exact absurd (of_decide_eq_true (List.all_eq_true.1 hb x hx)) h
  rw [if_pos e]
  split <;> rfl
theorem joinV_good {n : Nat} {L : List (List UInt8)} (hn : n ≤ 49152) (hl : ((n : Int) + 191) / 192 = (L.length : Int)) (h : ∀ s ∈ L, s.length = 192) :
    joinV n L = if Lib.trimB (L.flatten.drop n) 0 ≠ [] then ([], 2) else (L.flatten.take n, 0) := by
  unfold joinV
  rw [if_neg (by omega), if_neg]
  · rfl
  · rw [Bool.not_eq_false, List.all_eq_true]
    exact fun x hx => decide_eq_true (h x hx)
theorem take_all {α : Type} {P : α → Prop} {L : List α} {i : Nat} {x : α} (h : ∀ s ∈ L.take i, P s) (hx : L[i]? = some x) (hp : P x) : ∀ s ∈ L.take (i + 1), P s := by
  intro s hs
  rw [List.take_add_one, hx, List.mem_append] at hs
  rcases hs with hs | hs
  · exact h s hs
  · have : s = x := by simpa using hs
    rw [this]; exact hp
set_option maxRecDepth 100000 in
set_option maxHeartbeats 8000000 in
theorem join_spec13 (n : Int) (hn0 : -9223372036854775808 ≤ n) (hn1 : n ≤ 9223372036854775807) (M : Mem) (V : Value) (L : List (List UInt8)) (hV : SR M V L) (hL : L.length ≤ 300) :
    Abs.Spec Tryz.prog 7 [.int .i64 n, V] M fun u M' => u = .tuple #[.string (str (joinV n L).1), .int .i64 (joinV n L).2] ∧ M' = M := by
  have ⟨a, c, eV, h0, h2⟩ := hV
  subst eV
  refine Abs.Spec.walkM Tryz.func7 (by rfl) _ Tryz.results7 _ Tryz.ntmps7 (by simp) ?_
  intro _ _ _
  refine CW_seq (CW_region ?_)
  simp only [zZ, reduceIte, Nat.reduceLT, Int.reduceToNat, Int.reduceLE, Int.reduceEq, Int.reduceLT, Nat.reduceEqDiff, Nat.reduceAdd, zDk]
  by_cases hneg : n < 0
  · have q1 : decide (n < 0) = true := decide_eq_true hneg
    refine CW_seq (CW_seq (CW_region ?_))
    simp only [zZ, reduceIte, Nat.reduceLT, Int.reduceToNat, Int.reduceLE, Int.reduceEq, Int.reduceLT, Nat.reduceEqDiff, Nat.reduceAdd, zDk, q1]
    refine CW_cond true (by rfl) (fun _ => CW_seq (CW_region ?_)) (fun h => by cases h)
    simp only [zZ, reduceIte, Nat.reduceLT, Int.reduceToNat, Int.reduceLE, Int.reduceEq, Int.reduceLT, Nat.reduceEqDiff, Nat.reduceAdd, zDk]
    refine CW_ret ?_
    simp only [zZ, reduceIte, Nat.reduceLT, Int.reduceToNat, Int.reduceLE, Int.reduceEq, Int.reduceLT, Nat.reduceEqDiff, Nat.reduceAdd, zDk, mEnd, sAnswer, sAnswer.sRes]
    exact ⟨M, Thin.refl _, by rw [joinV_bad (.inl hneg)]; rfl, rfl⟩
  · have q1 : decide (n < 0) = false := decide_eq_false hneg
    obtain ⟨b, qb⟩ : ∃ b, (IntKind.i64.wrap ((IntKind.i64.wrap (IntKind.i64.wrap (n + 192) - 1)).tdiv 192) != (L.length : Int)) = b := ⟨_, rfl⟩
    have qx : n ≤ 49152 → b = decide ((n + 191) / 192 ≠ (L.length : Int)) := by
      intro h
      rw [← qb, wri (x := n + 192) (by omega) (by omega), wri (x := n + 192 - 1) (by omega) (by omega)]
      have e : (n + 192 - 1).tdiv 192 = (n + 191) / 192 := by rw [Int.tdiv_eq_ediv_of_nonneg (by omega)]; omega
      rw [e, wri (by omega) (by omega)]
      rw [bne, Bool.eq_iff_iff]
      simp
    by_cases hbad : 49152 < n ∨ b = true
    · have hj : joinV n L = ([], 1) := joinV_bad (by
        by_cases h : 49152 < n
        · exact .inr (.inl h)
        · rcases hbad with h' | h'
          · exact absurd h' h
          · exact .inr (.inr (of_decide_eq_true ((qx (by omega)).symm.trans h'))))
      have : b = true ∨ b = false ∧ decide (n > 49152) = true := by
        cases b
        · exact .inr ⟨rfl, decide_eq_true (by rcases hbad with h | h; exact h; cases h)⟩
        · exact .inl rfl
      rcases this with rfl | ⟨rfl, q2⟩
      · refine CW_seq (CW_seq (CW_region ?_))
        simp only [zZ, reduceIte, Nat.reduceLT, Int.reduceToNat, Int.reduceLE, Int.reduceEq, Int.reduceLT, Nat.reduceEqDiff, Nat.reduceAdd, zDk, q1, qb]
        refine CW_cond true (by rfl) (fun _ => CW_seq (CW_region ?_)) (fun h => by cases h)
        simp only [zZ, reduceIte, Nat.reduceLT, Int.reduceToNat, Int.reduceLE, Int.reduceEq, Int.reduceLT, Nat.reduceEqDiff, Nat.reduceAdd, zDk]
        refine CW_ret ?_
        simp only [zZ, reduceIte, Nat.reduceLT, Int.reduceToNat, Int.reduceLE, Int.reduceEq, Int.reduceLT, Nat.reduceEqDiff, Nat.reduceAdd, zDk, mEnd, sAnswer, sAnswer.sRes]
        exact ⟨M, Thin.refl _, by rw [hj]; rfl, rfl⟩
      · refine CW_seq (CW_seq (CW_region ?_))
        simp only [zZ, reduceIte, Nat.reduceLT, Int.reduceToNat, Int.reduceLE, Int.reduceEq, Int.reduceLT, Nat.reduceEqDiff, Nat.reduceAdd, zDk, q1, qb, q2]
        refine CW_cond true (by rfl) (fun _ => CW_seq (CW_region ?_)) (fun h => by cases h)
        simp only [zZ, reduceIte, Nat.reduceLT, Int.reduceToNat, Int.reduceLE, Int.reduceEq, Int.reduceLT, Nat.reduceEqDiff, Nat.reduceAdd, zDk]
        refine CW_ret ?_
        simp only [zZ, reduceIte, Nat.reduceLT, Int.reduceToNat, Int.reduceLE, Int.reduceEq, Int.reduceLT, Nat.reduceEqDiff, Nat.reduceAdd, zDk, mEnd, sAnswer, sAnswer.sRes]
        exact ⟨M, Thin.refl _, by rw [hj]; rfl, rfl⟩
    · have hb : b = false := by cases b; rfl; exact absurd (.inr rfl) hbad
      subst hb
      have q2 : decide (n > 49152) = false := decide_eq_false fun h => hbad (.inl h)
      have hn9 : n ≤ 49152 := by have := of_decide_eq_false q2; omega
      have hcount : (n + 191) / 192 = (L.length : Int) := by
        have := (qx hn9).symm
        have := of_decide_eq_false this
        omega
      obtain ⟨k, rfl⟩ : ∃ k : Nat, n = (k : Int) := ⟨n.toNat, by omega⟩
      refine CW_seq (CW_seq (CW_region ?_))
      simp only [zZ, reduceIte, Nat.reduceLT, Int.reduceToNat, Int.reduceLE, Int.reduceEq, Int.reduceLT, Nat.reduceEqDiff, Nat.reduceAdd, zDk, q1, qb, q2]
      refine CW_cond false (by rfl) (fun h => by cases h) (fun _ => CW_skip ?_)
      simp only [zZ, reduceIte, Nat.reduceLT, Int.reduceToNat, Int.reduceLE, Int.reduceEq, Int.reduceLT, Nat.reduceEqDiff, Nat.reduceAdd, zDk]
      refine MW_mid (fun f M' => f = [(0, .int .i64 (k : Nat)), (1, .slice a L.length c)] ∧ M' = M ∧ ∀ s ∈ L, s.length = 192) ?_ ?_
      · refine CW_seq (CW_region ?_)
        simp only [zZ, reduceIte, Nat.reduceLT, Int.reduceToNat, Int.reduceLE, Int.reduceEq, Int.reduceLT, Nat.reduceEqDiff, Nat.reduceAdd, zDk]
        refine CW_block (MW_loop (fun j f M' => ∃ i : Nat, j = L.length - i ∧ f = [(0, .int .i64 (k : Nat)), (1, .slice a L.length c), (24, .slice a L.length c), (25, .int .i64 (L.length : Nat)), (26, .int .i64 (i : Nat))] ∧ i ≤ L.length ∧ M' = M ∧ (∀ s ∈ L.take i, s.length = 192)) L.length ?_ ?_)
        · refine ⟨[0, 1, 24, 25, 26], ?_⟩
          simp only [zZ, reduceIte, Nat.reduceLT, Int.reduceToNat, Int.reduceLE, Int.reduceEq, Int.reduceLT, Nat.reduceEqDiff, Nat.reduceAdd, keepF]
          exact ⟨M, Thin.refl _, 0, rfl, rfl, by omega, rfl, by simp⟩
        · rintro j f M' ⟨i, rfl, rfl, hi, rfl, hall⟩
          refine CW_seq (CW_region ?_)
          simp only [zZ, reduceIte, Nat.reduceLT, Int.reduceToNat, Int.reduceLE, Int.reduceEq, Int.reduceLT, Nat.reduceEqDiff, Nat.reduceAdd, zDk]
          refine CW_seq (CW_cond (decide ((i : Int) < (L.length : Int))) (by rfl) (fun hq => CW_skip ?_) (fun hq => CW_exit ?_))
          · have hq' := of_decide_eq_true hq
            obtain ⟨x, hx⟩ : ∃ x, L[i]? = some x := ⟨_, List.getElem?_eq_getElem (by omega)⟩
            obtain ⟨g, ro, rfl, hg, hc⟩ := hV.cell hx
            have z0 : (0 : Int) ≤ (i : Int) := by omega
            have w1 : IntKind.i64.wrap ((i : Int) + 1) = ((i + 1 : Nat) : Int) := by rw [wri (by omega) (by omega)]; omega
            have hbx : bsize (str x) = x.length := rfl
            simp only [zZ, reduceIte, Nat.reduceLT, Int.reduceToNat, Int.reduceLE, Int.reduceEq, Int.reduceLT, Nat.reduceEqDiff, Nat.reduceAdd, zDk]
            refine CW_seq (CW_block (CW_seq (CW_region ?_)))
            simp only [zZ, reduceIte, Nat.reduceLT, Int.reduceToNat, Int.reduceLE, Int.reduceEq, Int.reduceLT, Nat.reduceEqDiff, Nat.reduceAdd, zDk, z0, hq', and_self, hg, Int.toNat_natCast, hc]
            refine CW_seq (CW_region ?_)
            simp only [zZ, reduceIte, Nat.reduceLT, Int.reduceToNat, Int.reduceLE, Int.reduceEq, Int.reduceLT, Nat.reduceEqDiff, Nat.reduceAdd, zDk, hbx]
            refine CW_cond ((x.length : Int) != 192) (by rfl) (fun hb => CW_seq (CW_region ?_)) (fun hb => CW_skip ?_)
            · have hne : x.length ≠ 192 := by intro e; rw [e] at hb; cases hb
              simp only [zZ, reduceIte, Nat.reduceLT, Int.reduceToNat, Int.reduceLE, Int.reduceEq, Int.reduceLT, Nat.reduceEqDiff, Nat.reduceAdd, zDk]
              refine CW_ret ?_
              simp only [zZ, reduceIte, Nat.reduceLT, Int.reduceToNat, Int.reduceLE, Int.reduceEq, Int.reduceLT, Nat.reduceEqDiff, Nat.reduceAdd, zDk, mEnd, sAnswer, sAnswer.sRes]
              exact ⟨_, Thin.refl _, by rw [joinV_short (List.mem_of_getElem? hx) hne]; rfl, rfl⟩
            · have he : x.length = 192 := by simp at hb; omega
              simp only [zZ, reduceIte, Nat.reduceLT, Int.reduceToNat, Int.reduceLE, Int.reduceEq, Int.reduceLT, Nat.reduceEqDiff, Nat.reduceAdd, zDk]
              refine CW_region ?_
              simp only [zZ, reduceIte, Nat.reduceLT, Int.reduceToNat, Int.reduceLE, Int.reduceEq, Int.reduceLT, Nat.reduceEqDiff, Nat.reduceAdd, zDk, w1]
              refine ⟨[0, 1, 24, 25, 26], ?_⟩
              simp only [zZ, reduceIte, Nat.reduceLT, Int.reduceToNat, Int.reduceLE, Int.reduceEq, Int.reduceLT, Nat.reduceEqDiff, Nat.reduceAdd, keepF]
              exact ⟨_, Thin.refl _, L.length - (i + 1), ⟨i + 1, rfl, rfl, by omega, rfl, take_all hall hx he⟩, by omega⟩
          · have hq' := of_decide_eq_false hq
            obtain rfl : i = L.length := by omega
            rw [List.take_length] at hall
            simp only [zZ, reduceIte, Nat.reduceLT, Int.reduceToNat, Int.reduceLE, Int.reduceEq, Int.reduceLT, Nat.reduceEqDiff, Nat.reduceAdd, zDk]
            refine ⟨[0, 1], ?_⟩
            simp only [zZ, reduceIte, Nat.reduceLT, Int.reduceToNat, Int.reduceLE, Int.reduceEq, Int.reduceLT, Nat.reduceEqDiff, Nat.reduceAdd, keepF]
            exact ⟨_, Thin.refl _, rfl, hall⟩
      · rintro _ _ ⟨rfl, rfl, hall⟩
        have jl := joinL_spec hV hL hall
        have hfl := flat_len hall
        have hkl : k ≤ L.flatten.length := by rw [hfl]; omega
        have st := fun get => slice_tail get L.flatten k hkl
        have sp := fun get => slice_to get (str L.flatten) k (by rw [str_size]; exact hkl)
        have e1 : (str L.flatten).data.toList = L.flatten := rfl
        rw [e1] at sp
        have tr := trim_spec (str (L.flatten.drop k)) 0 (by decide) (by rw [str_size, List.length_drop, hfl]; omega)
        have e2 : (str (L.flatten.drop k)).data.toList = L.flatten.drop k := rfl
        rw [e2] at tr
        have e3 : (⟨#[0]⟩ : ByteArray) = str [0] := rfl
        have eN : (!beqB (str (Lib.trimB (L.flatten.drop k) 0)) ⟨#[]⟩) = decide (Lib.trimB (L.flatten.drop k) 0 ≠ []) := by
          show (!beqB (str (Lib.trimB (L.flatten.drop k) 0)) (str [])) = _
          rw [beqB_strs, decide_not]
        have hj := joinV_good (by omega) hcount hall
        refine CW_seq (CW_region ?_)
        simp only [zZ, reduceIte, Nat.reduceLT, Int.reduceToNat, Int.reduceLE, Int.reduceEq, Int.reduceLT, Nat.reduceEqDiff, Nat.reduceAdd, zDk]
        refine ⟨by kernel_rfl, _, jl, ?_⟩
        rintro _ M9 ⟨rfl, e9⟩; replace e9 := e9.symm; subst e9
        simp only [zZ, reduceIte, Nat.reduceLT, Int.reduceToNat, Int.reduceLE, Int.reduceEq, Int.reduceLT, Nat.reduceEqDiff, Nat.reduceAdd, zDk]
        refine CW_seq (CW_seq (CW_region ?_))
        simp only [zZ, reduceIte, Nat.reduceLT, Int.reduceToNat, Int.reduceLE, Int.reduceEq, Int.reduceLT, Nat.reduceEqDiff, Nat.reduceAdd, zDk, st, e3]
        refine ⟨by kernel_rfl, _, tr _, ?_⟩
        rintro _ M9 ⟨rfl, e9⟩; replace e9 := e9.symm; subst e9
        simp only [zZ, reduceIte, Nat.reduceLT, Int.reduceToNat, Int.reduceLE, Int.reduceEq, Int.reduceLT, Nat.reduceEqDiff, Nat.reduceAdd, zDk, eN]
        refine CW_cond (decide (Lib.trimB (L.flatten.drop k) 0 ≠ [])) (by rfl) (fun hq => CW_seq (CW_region ?_)) (fun hq => CW_skip ?_)
        · have hq' := of_decide_eq_true hq
          rw [if_pos hq'] at hj
          simp only [zZ, reduceIte, Nat.reduceLT, Int.reduceToNat, Int.reduceLE, Int.reduceEq, Int.reduceLT, Nat.reduceEqDiff, Nat.reduceAdd, zDk]
          refine CW_ret ?_
          simp only [zZ, reduceIte, Nat.reduceLT, Int.reduceToNat, Int.reduceLE, Int.reduceEq, Int.reduceLT, Nat.reduceEqDiff, Nat.reduceAdd, zDk, mEnd, sAnswer, sAnswer.sRes]
          exact ⟨_, Thin.refl _, by rw [hj]; rfl, rfl⟩
        · have hq' := of_decide_eq_false hq
          rw [if_neg hq'] at hj
          simp only [zZ, reduceIte, Nat.reduceLT, Int.reduceToNat, Int.reduceLE, Int.reduceEq, Int.reduceLT, Nat.reduceEqDiff, Nat.reduceAdd, zDk]
          refine CW_seq (CW_region ?_)
          simp only [zZ, reduceIte, Nat.reduceLT, Int.reduceToNat, Int.reduceLE, Int.reduceEq, Int.reduceLT, Nat.reduceEqDiff, Nat.reduceAdd, zDk, sp]
          refine CW_ret ?_
          simp only [zZ, reduceIte, Nat.reduceLT, Int.reduceToNat, Int.reduceLE, Int.reduceEq, Int.reduceLT, Nat.reduceEqDiff, Nat.reduceAdd, zDk, mEnd, sAnswer, sAnswer.sRes]
          exact ⟨_, Thin.refl _, by rw [hj], rfl⟩
end Go.Proofs.YtofnagdofpcmpaaGreatDoor
namespace Go.Proofs.YtofnagdofpcmpaaGreatDoor
open Go.RowKit Abs
theorem take_same {α : Type} {L K : List α} {i : Nat} {x : α} (h : L.take i = K.take i) (h1 : L[i]? = some x) (h2 : K[i]? = some x) : L.take (i + 1) = K.take (i + 1) := by
  rw [List.take_add_one, List.take_add_one, h, h1, h2]
set_option maxRecDepth 100000 in
set_option maxHeartbeats 8000000 in
theorem texts_spec (L K : List (List UInt8)) (hl : L.length ≤ 100000) (hk : K.length ≤ 100000) (M : Mem) (v w : Value) (h : SR M v L) (h' : SR M w K) :
    Abs.Spec Tryz.prog 8 [v, w] M fun u M' => u = .bool (decide (L = K)) ∧ M' = M := by
  have ⟨a, c, e1, _⟩ := h
  have ⟨b, d, e2, _⟩ := h'
  subst e1
  subst e2
  refine Abs.Spec.walkM Tryz.func8 (by rfl) _ Tryz.results8 _ Tryz.ntmps8 (by simp) ?_
  intro _ _ _
  refine CW_seq (CW_region ?_)
  simp only [zZ, reduceIte, Nat.reduceLT, Int.reduceToNat, Int.reduceLE, Int.reduceEq, Int.reduceLT, Nat.reduceEqDiff, Nat.reduceAdd, zDk]
  refine CW_seq (CW_seq (CW_region ?_))
  simp only [zZ, reduceIte, Nat.reduceLT, Int.reduceToNat, Int.reduceLE, Int.reduceEq, Int.reduceLT, Nat.reduceEqDiff, Nat.reduceAdd, zDk]
  refine CW_cond (((L.length : Nat) : Int) != ((K.length : Nat) : Int)) (by rfl) (fun hq => CW_seq (CW_region ?_)) (fun hq => CW_skip ?_)
  · simp only [zZ, reduceIte, Nat.reduceLT, Int.reduceToNat, Int.reduceLE, Int.reduceEq, Int.reduceLT, Nat.reduceEqDiff, Nat.reduceAdd, zDk]
    refine CW_ret ?_
    simp only [zZ, reduceIte, Nat.reduceLT, Int.reduceToNat, Int.reduceLE, Int.reduceEq, Int.reduceLT, Nat.reduceEqDiff, Nat.reduceAdd, zDk, mEnd, sAnswer, sAnswer.sRes]
    have hne : L ≠ K := fun e => by subst e; simp at hq
    exact ⟨M, Thin.refl _, by rw [decide_eq_false hne], rfl⟩
  · have hlk : L.length = K.length := by simp at hq; omega
    simp only [zZ, reduceIte, Nat.reduceLT, Int.reduceToNat, Int.reduceLE, Int.reduceEq, Int.reduceLT, Nat.reduceEqDiff, Nat.reduceAdd, zDk]
    refine MW_mid (fun f M' => f = [] ∧ M' = M ∧ L = K) ?_ ?_
    · refine CW_seq (CW_region ?_)
      simp only [zZ, reduceIte, Nat.reduceLT, Int.reduceToNat, Int.reduceLE, Int.reduceEq, Int.reduceLT, Nat.reduceEqDiff, Nat.reduceAdd, zDk]
      refine CW_block (MW_loop (fun j f M' => ∃ i : Nat, j = L.length - i ∧ f = [(0, .slice a L.length c), (1, .slice b K.length d), (5, .int .i64 (i : Nat))] ∧ i ≤ L.length ∧ L.take i = K.take i ∧ M' = M) L.length ?_ ?_)
      · refine ⟨[0, 1, 5], ?_⟩
        simp only [zZ, reduceIte, Nat.reduceLT, Int.reduceToNat, Int.reduceLE, Int.reduceEq, Int.reduceLT, Nat.reduceEqDiff, Nat.reduceAdd, keepF]
        exact ⟨M, Thin.refl _, 0, rfl, rfl, by omega, rfl, rfl⟩
      · rintro j f M' ⟨i, rfl, rfl, hi, ht, rfl⟩
        refine CW_seq (CW_seq (CW_region ?_))
        simp only [zZ, reduceIte, Nat.reduceLT, Int.reduceToNat, Int.reduceLE, Int.reduceEq, Int.reduceLT, Nat.reduceEqDiff, Nat.reduceAdd, zDk]
        refine CW_cond (decide ((i : Int) < (L.length : Int))) (by rfl) (fun hq => CW_skip ?_) (fun hq => CW_exit ?_)
        · have hq' := of_decide_eq_true hq
          obtain ⟨x, hx⟩ : ∃ x, L[i]? = some x := ⟨_, List.getElem?_eq_getElem (by omega)⟩
          obtain ⟨y, hy⟩ : ∃ y, K[i]? = some y := ⟨_, List.getElem?_eq_getElem (by omega)⟩
          obtain ⟨b1, ro1, rfl, g1, c1⟩ := h.cell hx
          obtain ⟨b2, ro2, rfl, g2, c2⟩ := h'.cell hy
          have z0 : (0 : Int) ≤ (i : Int) := by omega
          have z1 : (i : Int) < (K.length : Int) := by omega
          have w1 : IntKind.i64.wrap ((i : Int) + 1) = ((i + 1 : Nat) : Int) := by rw [wri (by omega) (by omega)]; omega
          simp only [zZ, reduceIte, Nat.reduceLT, Int.reduceToNat, Int.reduceLE, Int.reduceEq, Int.reduceLT, Nat.reduceEqDiff, Nat.reduceAdd, zDk]
          refine CW_seq (CW_block (CW_seq (CW_draw hmix 8 (by kernel_rfl) (by kernel_rfl) ?_)))
          simp only [zZ, reduceIte, Nat.reduceLT, Int.reduceToNat, Int.reduceLE, Int.reduceEq, Int.reduceLT, Nat.reduceEqDiff, Nat.reduceAdd, zDk, z0, hq', z1, and_self, g1, g2, Int.toNat_natCast, c1, c2, Nat.zero_add]
          refine CW_cond (!beqB (str x) (str y)) (by rfl) (fun hb => CW_seq (CW_region ?_)) (fun hb => CW_skip ?_)
          · rw [beqB_strs] at hb
            have hxy : x ≠ y := by simpa using hb
            have hne : L ≠ K := fun e => hxy (by rw [e, hy] at hx; exact (Option.some.inj hx).symm)
            simp only [zZ, reduceIte, Nat.reduceLT, Int.reduceToNat, Int.reduceLE, Int.reduceEq, Int.reduceLT, Nat.reduceEqDiff, Nat.reduceAdd, zDk]
            refine CW_ret ?_
            simp only [zZ, reduceIte, Nat.reduceLT, Int.reduceToNat, Int.reduceLE, Int.reduceEq, Int.reduceLT, Nat.reduceEqDiff, Nat.reduceAdd, zDk, mEnd, sAnswer, sAnswer.sRes]
            exact ⟨M', Thin.refl _, by rw [decide_eq_false hne], rfl⟩
          · rw [beqB_strs] at hb
            have hxy : x = y := by simpa using hb
            subst hxy
            simp only [zZ, reduceIte, Nat.reduceLT, Int.reduceToNat, Int.reduceLE, Int.reduceEq, Int.reduceLT, Nat.reduceEqDiff, Nat.reduceAdd, zDk]
            refine CW_region ?_
            simp only [zZ, reduceIte, Nat.reduceLT, Int.reduceToNat, Int.reduceLE, Int.reduceEq, Int.reduceLT, Nat.reduceEqDiff, Nat.reduceAdd, zDk, w1]
            refine ⟨[0, 1, 5], ?_⟩
            simp only [zZ, reduceIte, Nat.reduceLT, Int.reduceToNat, Int.reduceLE, Int.reduceEq, Int.reduceLT, Nat.reduceEqDiff, Nat.reduceAdd, keepF]
            exact ⟨M', Thin.refl _, L.length - (i + 1), ⟨i + 1, rfl, rfl, by omega, take_same ht hx hy, rfl⟩, by omega⟩
        · have hq' := of_decide_eq_false hq
          obtain rfl : i = L.length := by omega
          rw [List.take_length, hlk, List.take_length] at ht
          simp only [zZ, reduceIte, Nat.reduceLT, Int.reduceToNat, Int.reduceLE, Int.reduceEq, Int.reduceLT, Nat.reduceEqDiff, Nat.reduceAdd, zDk]
          refine ⟨[], ?_⟩
          simp only [zZ, reduceIte, Nat.reduceLT, Int.reduceToNat, Int.reduceLE, Int.reduceEq, Int.reduceLT, Nat.reduceEqDiff, Nat.reduceAdd, keepF]
          exact ⟨M', Thin.refl _, rfl, ht⟩
    · rintro f M1 ⟨rfl, rfl, e⟩
      refine CW_seq (CW_region ?_)
      simp only [zZ, reduceIte, Nat.reduceLT, Int.reduceToNat, Int.reduceLE, Int.reduceEq, Int.reduceLT, Nat.reduceEqDiff, Nat.reduceAdd, zDk]
      refine CW_ret ?_
      simp only [zZ, reduceIte, Nat.reduceLT, Int.reduceToNat, Int.reduceLE, Int.reduceEq, Int.reduceLT, Nat.reduceEqDiff, Nat.reduceAdd, zDk, mEnd, sAnswer, sAnswer.sRes]
      exact ⟨_, Thin.refl _, by rw [decide_eq_true e], rfl⟩
theorem flat_take {L : List (List UInt8)} {i : Nat} {x : List UInt8} (hx : L[i]? = some x) : (L.take (i + 1)).flatten = (L.take i).flatten ++ x := by
  rw [List.take_add_one, hx, List.flatten_append]
  simp
set_option maxRecDepth 100000 in
set_option maxHeartbeats 8000000 in
theorem rjoin_spec (n : Int) (hn0 : -9223372036854775808 ≤ n) (hn1 : n ≤ 9223372036854775807) (M : Mem) (V : Value) (L : List (List UInt8)) (hV : SR M V L) (hL : L.length ≤ 300) :
    Abs.Spec Tryz.prog 11 [.int .i64 n, V] M fun u M' => u = .tuple #[.string (str (joinV n L).1), .int .i64 (joinV n L).2] ∧ M' = M := by
  have ⟨a, c, eV, h0, h2⟩ := hV
  subst eV
  refine Abs.Spec.walkM Tryz.func11 (by rfl) _ Tryz.results11 _ Tryz.ntmps11 (by simp) ?_
  intro _ _ _
  refine CW_seq (CW_region ?_)
  simp only [zZ, reduceIte, Nat.reduceLT, Int.reduceToNat, Int.reduceLE, Int.reduceEq, Int.reduceLT, Nat.reduceEqDiff, Nat.reduceAdd, zDk]
  by_cases hneg : n < 0
  · have q1 : decide (n < 0) = true := decide_eq_true hneg
    refine CW_seq (CW_seq (CW_region ?_))
    simp only [zZ, reduceIte, Nat.reduceLT, Int.reduceToNat, Int.reduceLE, Int.reduceEq, Int.reduceLT, Nat.reduceEqDiff, Nat.reduceAdd, zDk, q1]
    refine CW_cond true (by rfl) (fun _ => CW_seq (CW_region ?_)) (fun h => by cases h)
    simp only [zZ, reduceIte, Nat.reduceLT, Int.reduceToNat, Int.reduceLE, Int.reduceEq, Int.reduceLT, Nat.reduceEqDiff, Nat.reduceAdd, zDk]
    refine CW_ret ?_
    simp only [zZ, reduceIte, Nat.reduceLT, Int.reduceToNat, Int.reduceLE, Int.reduceEq, Int.reduceLT, Nat.reduceEqDiff, Nat.reduceAdd, zDk, mEnd, sAnswer, sAnswer.sRes]
    exact ⟨M, Thin.refl _, by rw [joinV_bad (.inl hneg)]; rfl, rfl⟩
  have q1 : decide (n < 0) = false := decide_eq_false hneg
  by_cases hbig : n > 49152
  · have q2 : decide (n > 49152) = true := decide_eq_true hbig
    refine CW_seq (CW_seq (CW_region ?_))
    simp only [zZ, reduceIte, Nat.reduceLT, Int.reduceToNat, Int.reduceLE, Int.reduceEq, Int.reduceLT, Nat.reduceEqDiff, Nat.reduceAdd, zDk, q1, q2]
    refine CW_cond true (by rfl) (fun _ => CW_seq (CW_region ?_)) (fun h => by cases h)
    simp only [zZ, reduceIte, Nat.reduceLT, Int.reduceToNat, Int.reduceLE, Int.reduceEq, Int.reduceLT, Nat.reduceEqDiff, Nat.reduceAdd, zDk]
    refine CW_ret ?_
    simp only [zZ, reduceIte, Nat.reduceLT, Int.reduceToNat, Int.reduceLE, Int.reduceEq, Int.reduceLT, Nat.reduceEqDiff, Nat.reduceAdd, zDk, mEnd, sAnswer, sAnswer.sRes]
    exact ⟨M, Thin.refl _, by rw [joinV_bad (.inr (.inl hbig))]; rfl, rfl⟩
  have q2 : decide (n > 49152) = false := decide_eq_false hbig
  have wq : IntKind.i64.wrap ((IntKind.i64.wrap (n + 191)).tdiv 192) = (n + 191) / 192 := by
    rw [wri (x := n + 191) (by omega) (by omega), Int.tdiv_eq_ediv_of_nonneg (by omega), wri (by omega) (by omega)]
  by_cases hcount : (n + 191) / 192 = (L.length : Int)
  · have q3 : ((L.length : Int) != (n + 191) / 192) = false := by rw [hcount]; simp
    obtain ⟨k, rfl⟩ : ∃ k : Nat, n = (k : Int) := ⟨n.toNat, by omega⟩
    refine CW_seq (CW_seq (CW_region ?_))
    simp only [zZ, reduceIte, Nat.reduceLT, Int.reduceToNat, Int.reduceLE, Int.reduceEq, Int.reduceLT, Nat.reduceEqDiff, Nat.reduceAdd, zDk, q1, q2, wq, q3]
    refine CW_cond false (by rfl) (fun h => by cases h) (fun _ => CW_skip ?_)
    simp only [zZ, reduceIte, Nat.reduceLT, Int.reduceToNat, Int.reduceLE, Int.reduceEq, Int.reduceLT, Nat.reduceEqDiff, Nat.reduceAdd, zDk]
    refine CW_seq (CW_region ?_)
    simp only [zZ, reduceIte, Nat.reduceLT, Int.reduceToNat, Int.reduceLE, Int.reduceEq, Int.reduceLT, Nat.reduceEqDiff, Nat.reduceAdd, zDk]
    refine MW_mid (fun f M' => f = [(0, .int .i64 (k : Nat)), (6, .string (str L.flatten))] ∧ M' = M ∧ ∀ s ∈ L, s.length = 192) ?_ ?_
    · refine CW_seq (CW_region ?_)
      simp only [zZ, reduceIte, Nat.reduceLT, Int.reduceToNat, Int.reduceLE, Int.reduceEq, Int.reduceLT, Nat.reduceEqDiff, Nat.reduceAdd, zDk]
      refine CW_block (MW_loop (fun j f M' => ∃ i : Nat, j = L.length - i ∧ f = [(0, .int .i64 (k : Nat)), (1, .slice a L.length c), (6, .string (str (L.take i).flatten)), (7, .int .i64 (i : Nat))] ∧ i ≤ L.length ∧ M' = M ∧ (∀ s ∈ L.take i, s.length = 192)) L.length ?_ ?_)
      · refine ⟨[0, 1, 6, 7], ?_⟩
        simp only [zZ, reduceIte, Nat.reduceLT, Int.reduceToNat, Int.reduceLE, Int.reduceEq, Int.reduceLT, Nat.reduceEqDiff, Nat.reduceAdd, keepF]
        exact ⟨M, Thin.refl _, 0, rfl, rfl, by omega, rfl, by simp⟩
      · rintro j f M' ⟨i, rfl, rfl, hi, rfl, hall⟩
        refine CW_seq (CW_seq (CW_region ?_))
        simp only [zZ, reduceIte, Nat.reduceLT, Int.reduceToNat, Int.reduceLE, Int.reduceEq, Int.reduceLT, Nat.reduceEqDiff, Nat.reduceAdd, zDk]
        refine CW_cond (decide ((i : Int) < (L.length : Int))) (by rfl) (fun hq => CW_skip ?_) (fun hq => CW_exit ?_)
        · have hq' := of_decide_eq_true hq
          obtain ⟨x, hx⟩ : ∃ x, L[i]? = some x := ⟨_, List.getElem?_eq_getElem (by omega)⟩
          obtain ⟨g, ro, rfl, hg, hc⟩ := hV.cell hx
          have z0 : (0 : Int) ≤ (i : Int) := by omega
          have w1 : IntKind.i64.wrap ((i : Int) + 1) = ((i + 1 : Nat) : Int) := by rw [wri (by omega) (by omega)]; omega
          have hbx : bsize (str x) = x.length := rfl
          have hfi := flat_len hall
          rw [List.length_take] at hfi
          simp only [zZ, reduceIte, Nat.reduceLT, Int.reduceToNat, Int.reduceLE, Int.reduceEq, Int.reduceLT, Nat.reduceEqDiff, Nat.reduceAdd, zDk]
          refine CW_seq (CW_block (CW_seq (CW_seq (CW_region ?_))))
          simp only [zZ, reduceIte, Nat.reduceLT, Int.reduceToNat, Int.reduceLE, Int.reduceEq, Int.reduceLT, Nat.reduceEqDiff, Nat.reduceAdd, zDk, z0, hq', and_self, hg, Int.toNat_natCast, hc, hbx, Nat.zero_add]
          refine CW_cond ((x.length : Int) != 192) (by rfl) (fun hb => CW_seq (CW_region ?_)) (fun hb => CW_skip ?_)
          · have hne : x.length ≠ 192 := by intro e; rw [e] at hb; cases hb
            simp only [zZ, reduceIte, Nat.reduceLT, Int.reduceToNat, Int.reduceLE, Int.reduceEq, Int.reduceLT, Nat.reduceEqDiff, Nat.reduceAdd, zDk]
            refine CW_ret ?_
            simp only [zZ, reduceIte, Nat.reduceLT, Int.reduceToNat, Int.reduceLE, Int.reduceEq, Int.reduceLT, Nat.reduceEqDiff, Nat.reduceAdd, zDk, mEnd, sAnswer, sAnswer.sRes]
            exact ⟨_, Thin.refl _, by rw [joinV_short (List.mem_of_getElem? hx) hne]; rfl, rfl⟩
          · have he : x.length = 192 := by simp at hb; omega
            simp only [zZ, reduceIte, Nat.reduceLT, Int.reduceToNat, Int.reduceLE, Int.reduceEq, Int.reduceLT, Nat.reduceEqDiff, Nat.reduceAdd, zDk]
            refine CW_region ?_
            simp only [zZ, reduceIte, Nat.reduceLT, Int.reduceToNat, Int.reduceLE, Int.reduceEq, Int.reduceLT, Nat.reduceEqDiff, Nat.reduceAdd, zDk, z0, hq', and_self, hg, Int.toNat_natCast, hc, hbx, Nat.zero_add, cat_str]
            refine ⟨by rw [siz_str]; omega, ?_⟩
            rw [← flat_take hx]
            refine CW_region ?_
            simp only [zZ, reduceIte, Nat.reduceLT, Int.reduceToNat, Int.reduceLE, Int.reduceEq, Int.reduceLT, Nat.reduceEqDiff, Nat.reduceAdd, zDk, w1]
            refine ⟨[0, 1, 6, 7], ?_⟩
            simp only [zZ, reduceIte, Nat.reduceLT, Int.reduceToNat, Int.reduceLE, Int.reduceEq, Int.reduceLT, Nat.reduceEqDiff, Nat.reduceAdd, keepF]
            exact ⟨_, Thin.refl _, L.length - (i + 1), ⟨i + 1, rfl, rfl, by omega, rfl, take_all hall hx he⟩, by omega⟩
        · have hq' := of_decide_eq_false hq
          obtain rfl : i = L.length := by omega
          rw [List.take_length] at hall
          rw [List.take_length]
          simp only [zZ, reduceIte, Nat.reduceLT, Int.reduceToNat, Int.reduceLE, Int.reduceEq, Int.reduceLT, Nat.reduceEqDiff, Nat.reduceAdd, zDk]
          refine ⟨[0, 6], ?_⟩
          simp only [zZ, reduceIte, Nat.reduceLT, Int.reduceToNat, Int.reduceLE, Int.reduceEq, Int.reduceLT, Nat.reduceEqDiff, Nat.reduceAdd, keepF]
          exact ⟨_, Thin.refl _, rfl, hall⟩
    · rintro _ M1 ⟨rfl, hM1, hall⟩
      subst hM1
      have hfl := flat_len hall
      have hkl : k ≤ L.flatten.length := by rw [hfl]; omega
      have sp := fun get => slice_to get (str L.flatten) k (by rw [str_size]; exact hkl)
      have e1 : (str L.flatten).data.toList = L.flatten := rfl
      rw [e1] at sp
      have hbf : bsize (str L.flatten) = L.flatten.length := rfl
      have hj := joinV_good (by omega) hcount hall
      refine MW_mid (fun f M' => f = [(0, .int .i64 (k : Nat)), (6, .string (str L.flatten))] ∧ M' = M1 ∧ Lib.trimB (L.flatten.drop k) 0 = []) ?_ ?_
      · refine CW_seq (CW_region ?_)
        simp only [zZ, reduceIte, Nat.reduceLT, Int.reduceToNat, Int.reduceLE, Int.reduceEq, Int.reduceLT, Nat.reduceEqDiff, Nat.reduceAdd, zDk]
        refine CW_block (MW_loop (fun j f M' => ∃ i : Nat, j = L.flatten.length - i ∧ f = [(0, .int .i64 (k : Nat)), (6, .string (str L.flatten)), (8, .int .i64 (i : Nat))] ∧ k ≤ i ∧ i ≤ L.flatten.length ∧ M' = M1 ∧ (∀ t, k ≤ t → t < i → L.flatten.getD t 0 = 0)) (L.flatten.length - k) ?_ ?_)
        · refine ⟨[0, 6, 8], ?_⟩
          simp only [zZ, reduceIte, Nat.reduceLT, Int.reduceToNat, Int.reduceLE, Int.reduceEq, Int.reduceLT, Nat.reduceEqDiff, Nat.reduceAdd, keepF]
          exact ⟨_, Thin.refl _, k, rfl, rfl, Nat.le_refl _, hkl, rfl, fun t h1 h2 => by omega⟩
        · rintro j f M' ⟨i, rfl, rfl, hki, hi, rfl, hz⟩
          refine CW_seq (CW_seq (CW_region ?_))
          simp only [zZ, reduceIte, Nat.reduceLT, Int.reduceToNat, Int.reduceLE, Int.reduceEq, Int.reduceLT, Nat.reduceEqDiff, Nat.reduceAdd, zDk, hbf]
          refine CW_cond (decide ((i : Int) < (L.flatten.length : Int))) (by rfl) (fun hq => CW_skip ?_) (fun hq => CW_exit ?_)
          · have hq' := of_decide_eq_true hq
            have ix := index_str (str L.flatten) _ i rfl (by rw [str_size]; omega)
            rw [e1] at ix
            have w1 : IntKind.i64.wrap ((i : Int) + 1) = ((i + 1 : Nat) : Int) := by rw [wri (by omega) (by omega)]; omega
            simp only [zZ, reduceIte, Nat.reduceLT, Int.reduceToNat, Int.reduceLE, Int.reduceEq, Int.reduceLT, Nat.reduceEqDiff, Nat.reduceAdd, zDk]
            refine CW_seq (CW_block (CW_seq (CW_region ?_)))
            simp only [zZ, reduceIte, Nat.reduceLT, Int.reduceToNat, Int.reduceLE, Int.reduceEq, Int.reduceLT, Nat.reduceEqDiff, Nat.reduceAdd, zDk, ix]
            refine CW_cond ((((L.flatten.getD i 0).toNat : Nat) : Int) != 0) (by rfl) (fun hb => CW_seq (CW_region ?_)) (fun hb => CW_skip ?_)
            · have hne : L.flatten.getD i 0 ≠ 0 := by intro e; rw [e] at hb; cases hb
              rw [if_pos (fun e => hne ((trim0_iff _).1 e _ (List.mem_of_getElem? (i := i - k) (by
                rw [List.getElem?_drop, show k + (i - k) = i by omega, List.getD_eq_getElem?_getD, List.getElem?_eq_getElem (by omega)]; rfl))))] at hj
              simp only [zZ, reduceIte, Nat.reduceLT, Int.reduceToNat, Int.reduceLE, Int.reduceEq, Int.reduceLT, Nat.reduceEqDiff, Nat.reduceAdd, zDk]
              refine CW_ret ?_
              simp only [zZ, reduceIte, Nat.reduceLT, Int.reduceToNat, Int.reduceLE, Int.reduceEq, Int.reduceLT, Nat.reduceEqDiff, Nat.reduceAdd, zDk, mEnd, sAnswer, sAnswer.sRes]
              exact ⟨_, Thin.refl _, by rw [hj]; rfl, rfl⟩
            · have he : L.flatten.getD i 0 = 0 := by
                have hb' : ((L.flatten.getD i 0).toNat : Int) = 0 := by simpa using hb
                exact UInt8.toNat_inj.1 (by show _ = 0; omega)
              simp only [zZ, reduceIte, Nat.reduceLT, Int.reduceToNat, Int.reduceLE, Int.reduceEq, Int.reduceLT, Nat.reduceEqDiff, Nat.reduceAdd, zDk]
              refine CW_region ?_
              simp only [zZ, reduceIte, Nat.reduceLT, Int.reduceToNat, Int.reduceLE, Int.reduceEq, Int.reduceLT, Nat.reduceEqDiff, Nat.reduceAdd, zDk, w1]
              refine ⟨[0, 6, 8], ?_⟩
              simp only [zZ, reduceIte, Nat.reduceLT, Int.reduceToNat, Int.reduceLE, Int.reduceEq, Int.reduceLT, Nat.reduceEqDiff, Nat.reduceAdd, keepF]
              exact ⟨_, Thin.refl _, L.flatten.length - (i + 1), ⟨i + 1, rfl, rfl, by omega, by omega, rfl, fun t h1 h2 => by
                rcases Nat.lt_or_ge t i with h | h
                · exact hz t h1 h
                · obtain rfl : t = i := by omega
                  exact he⟩, by omega⟩
          · have hq' := of_decide_eq_false hq
            obtain rfl : i = L.flatten.length := by omega
            simp only [zZ, reduceIte, Nat.reduceLT, Int.reduceToNat, Int.reduceLE, Int.reduceEq, Int.reduceLT, Nat.reduceEqDiff, Nat.reduceAdd, zDk]
            refine ⟨[0, 6], ?_⟩
            simp only [zZ, reduceIte, Nat.reduceLT, Int.reduceToNat, Int.reduceLE, Int.reduceEq, Int.reduceLT, Nat.reduceEqDiff, Nat.reduceAdd, keepF]
            refine ⟨_, Thin.refl _, rfl, (trim0_iff _).2 fun b hb => ?_⟩
            obtain ⟨t, ht⟩ := List.getElem?_of_mem hb
            rw [List.getElem?_drop] at ht
            have hlt : k + t < L.flatten.length := by
              rcases Nat.lt_or_ge (k + t) L.flatten.length with h | h
              · exact h
              · rw [List.getElem?_eq_none h] at ht; cases ht
            have := hz (k + t) (by omega) hlt
            rw [List.getD_eq_getElem?_getD, ht] at this
            exact this
      · rintro _ _ ⟨rfl, rfl, htr⟩
        rw [if_neg (fun h => h htr)] at hj
        refine CW_seq (CW_region ?_)
        simp only [zZ, reduceIte, Nat.reduceLT, Int.reduceToNat, Int.reduceLE, Int.reduceEq, Int.reduceLT, Nat.reduceEqDiff, Nat.reduceAdd, zDk, sp]
        refine CW_ret ?_
        simp only [zZ, reduceIte, Nat.reduceLT, Int.reduceToNat, Int.reduceLE, Int.reduceEq, Int.reduceLT, Nat.reduceEqDiff, Nat.reduceAdd, zDk, mEnd, sAnswer, sAnswer.sRes]
        exact ⟨_, Thin.refl _, by rw [hj], rfl⟩
  · have q3 : ((L.length : Int) != (n + 191) / 192) = true := by simp; omega
    refine CW_seq (CW_seq (CW_region ?_))
    simp only [zZ, reduceIte, Nat.reduceLT, Int.reduceToNat, Int.reduceLE, Int.reduceEq, Int.reduceLT, Nat.reduceEqDiff, Nat.reduceAdd, zDk, q1, q2, wq, q3]
    refine CW_cond true (by rfl) (fun _ => CW_seq (CW_region ?_)) (fun h => by cases h)
    simp only [zZ, reduceIte, Nat.reduceLT, Int.reduceToNat, Int.reduceLE, Int.reduceEq, Int.reduceLT, Nat.reduceEqDiff, Nat.reduceAdd, zDk]
    refine CW_ret ?_
    simp only [zZ, reduceIte, Nat.reduceLT, Int.reduceToNat, Int.reduceLE, Int.reduceEq, Int.reduceLT, Nat.reduceEqDiff, Nat.reduceAdd, zDk, mEnd, sAnswer, sAnswer.sRes]
    exact ⟨M, Thin.refl _, by rw [joinV_bad (.inr (.inr hcount))]; rfl, rfl⟩
end Go.Proofs.YtofnagdofpcmpaaGreatDoor
