/-
  DERIVED: THE SHELF's CONTRACTS AT THIS DUMP, IN PLAIN WORDS (tools/lay-plain.mjs out of 'TryzShelf.lean', which tools/lay-shelf.mjs wrote): THE SAME DECLARATIONS UNDER THE SAME NAMES: 'import', 'namespace', 'open', 'def', 'theorem' AND NOTHING ELSE: no command of the shelf's: FOR A HAND-IN. Each laying: the table of numbers ('.._ren') and one theorem, a field a fact of the dump's own or the kernel's comparison; each contract: ONE APPLICATION.
  The library's contracts (of worlds), for the abstract machine: how they are turned; Itoa.
  The library's contract for what stands ahead of a text, for the abstract machine.
  The library's contracts that disks ask for, for the abstract machine.
  Loads, stores, addresses, new blocks of the types that a disk's world has.
-/
import Derived.Shelf.Strings.Builder1
import Derived.Shelf.Strings.Builder2
import Derived.Shelf.Strings.OnBuilder
import Derived.Shelf.Strings.Trim
import Derived.Shelf.Small.Utf8
import Derived.Shelf.Small.Bits
import Derived.Shelf.Small.Strs
import Derived.Shelf.Small.Wraps
import Derived.Shelf.Strings.BuilderF
import Derived.Shelf.Strings.BuilderK
import Derived.Shelf.Strings.Builder2Cap
import Derived.Shelf.Strconv.Itoa0
import Derived.Shelf.Strings.Search1
import Derived.Shelf.Strings.Search2
import Derived.Shelf.Strings.Search3
import Derived.Shelf.Strings.Cut
import Derived.Shelf.LaysM
import Derived.Shelf.Strings.Shaped
import Derived.Shelf.Sort.Plain
import Derived.Shelf.Strings.Prefix
import Derived.Shelf.Unicode.Decode
import Derived.Shelf.Strings.Runes
import Derived.Shelf.Strings.AsciiSet
import Derived.Shelf.Bits.Mul64
import Derived.Shelf.Strings.Repeat
import Derived.Shelf.Unicode.DecodeSlow
import Derived.Shelf.Unicode.DecodeAny
import Derived.Shelf.Unicode.DecodeLast
import Derived.Shelf.Strings.BuilderCap
import Derived.Shelf.Slices.Turned
import Derived.Ground.Names2Prog
import Derived.Shelf.Slices.Clone
import Derived.Shelf.Slices.SearchI
import Derived.Shelf.Slices.In.SortNone
import Derived.Ground.SlgnProg
import Derived.Shelf.SlicesE.Clone
import Derived.Test.YtfdijpacbhomjaaGreatDoorProg
import Derived.Test.YtfdijpacbhomjaaGreatDoorMsnd09
import Derived.Lib.Strings
import Derived.Lib.TrimByte
set_option linter.all false
namespace Go.Proofs
open Go.Shelf
def Tryz.lays160_ren : Go.Shelf.Ren := ⟨fun | 160 => 145 | 232 => 215 | 231 => 214 | 227 => 216 | 234 => 218 | 233 => 217 | 236 => 220 | 235 => 219 | 228 => 262 | 271 => 265 | 151 => 264 | 197 => 263 | 120 => 302 | 152 => 301 | 260 => 300 | 137 => 329 | 119 => 330 | 224 => 331 | 225 => 332 | 217 => 358 | 266 => 376 | n => n, fun | 9 => 9 | 4 => 4 | 3 => 3 | 5 => 5 | 117 => 334 | 116 => 333 | 0 => 0 | 124 => 337 | 21 => 21 | 105 => 370 | 46 => 182 | 119 => 435 | 139 => 438 | 138 => 437 | n => n, fun | 3 => 1 | 4 => 2 | n => n⟩
theorem Tryz.lays160 : Go.Proofs.Lays.n160 Tryz.prog Tryz.lays160_ren := {
  mixed := by kernel_rfl
  f119 := Tryz.func330.trans (congrArg some (by kernel_rfl))
  f120 := Tryz.func302.trans (congrArg some (by kernel_rfl))
  f137 := Tryz.func329.trans (congrArg some (by kernel_rfl))
  f151 := Tryz.func264.trans (congrArg some (by kernel_rfl))
  f152 := Tryz.func301.trans (congrArg some (by kernel_rfl))
  f160 := Tryz.func145.trans (congrArg some (by kernel_rfl))
  f197 := Tryz.func263.trans (congrArg some (by kernel_rfl))
  f217 := Tryz.func358.trans (congrArg some (by kernel_rfl))
  f224 := Tryz.func331.trans (congrArg some (by kernel_rfl))
  f225 := Tryz.func332.trans (congrArg some (by kernel_rfl))
  f227 := Tryz.func216.trans (congrArg some (by kernel_rfl))
  f228 := Tryz.func262.trans (congrArg some (by kernel_rfl))
  f231 := Tryz.func214.trans (congrArg some (by kernel_rfl))
  f232 := Tryz.func215.trans (congrArg some (by kernel_rfl))
  f233 := Tryz.func217.trans (congrArg some (by kernel_rfl))
  f234 := Tryz.func218.trans (congrArg some (by kernel_rfl))
  f235 := Tryz.func219.trans (congrArg some (by kernel_rfl))
  f236 := Tryz.func220.trans (congrArg some (by kernel_rfl))
  f260 := Tryz.func300.trans (congrArg some (by kernel_rfl))
  f266 := Tryz.func376.trans (congrArg some (by kernel_rfl))
  f271 := Tryz.func265.trans (congrArg some (by kernel_rfl))
  t0 := Tryz.underlying0
  a0 := Tryz.isAgg0
  z0 := Tryz.sizeOf0
  v0 := Tryz.zeroValue0
  t3 := Tryz.underlying3
  a3 := Tryz.isAgg3
  z3 := Tryz.sizeOf3
  v3 := Tryz.zeroValue3
  t4 := Tryz.underlying4
  a4 := Tryz.isAgg4
  z4 := Tryz.sizeOf4
  v4 := Tryz.zeroValue4
  t5 := Tryz.underlying5
  a5 := Tryz.isAgg5
  z5 := Tryz.sizeOf5
  v5 := Tryz.zeroValue5
  t9 := Tryz.underlying9
  a9 := Tryz.isAgg9
  z9 := Tryz.sizeOf9
  v9 := Tryz.zeroValue9
  t21 := Tryz.underlying21
  a21 := Tryz.isAgg21
  z21 := Tryz.sizeOf21
  v21 := Tryz.zeroValue21
  t46 := Tryz.underlying182
  a46 := Tryz.isAgg182
  z46 := Tryz.sizeOf182
  v46 := Tryz.zeroValue182
  t105 := Tryz.underlying370
  a105 := Tryz.isAgg370
  z105 := Tryz.sizeOf370
  v105 := Tryz.zeroValue370
  t116 := Tryz.underlying333
  a116 := Tryz.isAgg333
  z116 := Tryz.sizeOf333
  t117 := Tryz.underlying334
  a117 := Tryz.isAgg334
  z117 := Tryz.sizeOf334
  v117 := Tryz.zeroValue334
  t119 := Tryz.underlying435
  a119 := Tryz.isAgg435
  z119 := Tryz.sizeOf435
  t124 := Tryz.underlying337
  a124 := Tryz.isAgg337
  z124 := Tryz.sizeOf337
  v124 := Tryz.zeroValue337
  t138 := Tryz.underlying437
  a138 := Tryz.isAgg437
  z138 := Tryz.sizeOf437
  v138 := Tryz.zeroValue437
  t139 := Tryz.underlying438
  a139 := Tryz.isAgg438
  z139 := Tryz.sizeOf438
  v139 := Tryz.zeroValue438
  g3 := by kernel_rfl
  g4 := by kernel_rfl }
open Go.RowKit in
theorem Tryz.strings_Trim_one (s : ByteArray) (c : UInt8) (hc : c.toNat < 128) (w : World) (hs : s.size ≤ 9223372036854775807) :
    Calls Tryz.prog 145 #[.string s, .string ⟨#[c]⟩] w fun e w' => e = .returned (.string ⟨(Lib.trimB s.data.toList c).toArray⟩) ∧ (w' = w ∨ w' = w.drew) := Any.strings_Trim_one Tryz.lays160 s c hc w hs
def Tryz.lays106_ren : Go.Shelf.Ren := ⟨fun | 106 => 307 | 213 => 338 | 265 => 362 | n => n, fun | 9 => 9 | 3 => 3 | n => n, fun | n => n⟩
theorem Tryz.lays106 : Go.Proofs.Lays.n106 Tryz.prog Tryz.lays106_ren := {
  mixed := by kernel_rfl
  f106 := Tryz.func307.trans (congrArg some (by kernel_rfl))
  f213 := Tryz.func338.trans (congrArg some (by kernel_rfl))
  f265 := Tryz.func362.trans (congrArg some (by kernel_rfl))
  t3 := Tryz.underlying3
  a3 := Tryz.isAgg3
  z3 := Tryz.sizeOf3
  v3 := Tryz.zeroValue3
  t9 := Tryz.underlying9
  a9 := Tryz.isAgg9
  z9 := Tryz.sizeOf9
  v9 := Tryz.zeroValue9 }
open Go.RowKit in
theorem Tryz.strings_Compare (a b : ByteArray) (w : World) :
    Calls Tryz.prog 307 #[.string a, .string b] w fun e w' => e = .returned (.int .i64 (Lib.compareBytes a.data.toList b.data.toList)) ∧ w' = w := Any.strings_Compare Tryz.lays106 a b w
def Tryz.lays103_ren : Go.Shelf.Ren := ⟨fun | 103 => 144 | 210 => 213 | 206 => 138 | n => n, fun | 9 => 9 | 4 => 4 | 24 => 261 | 3 => 3 | n => n, fun | n => n⟩
theorem Tryz.lays103 : Go.Proofs.Lays.n103 Tryz.prog Tryz.lays103_ren := {
  mixed := by kernel_rfl
  f103 := Tryz.func144.trans (congrArg some (by kernel_rfl))
  f206 := Tryz.func138.trans (congrArg some (by kernel_rfl))
  f210 := Tryz.func213.trans (congrArg some (by kernel_rfl))
  t3 := Tryz.underlying3
  a3 := Tryz.isAgg3
  z3 := Tryz.sizeOf3
  v3 := Tryz.zeroValue3
  t4 := Tryz.underlying4
  a4 := Tryz.isAgg4
  z4 := Tryz.sizeOf4
  v4 := Tryz.zeroValue4
  t9 := Tryz.underlying9
  a9 := Tryz.isAgg9
  z9 := Tryz.sizeOf9
  v9 := Tryz.zeroValue9
  t24 := Tryz.underlying261
  a24 := Tryz.isAgg261
  z24 := Tryz.sizeOf261
  v24 := Tryz.zeroValue261 }
open Go.RowKit in
theorem Tryz.strings_CutPrefix (s p : ByteArray) (w : World) :
    Calls Tryz.prog 144 #[.string s, .string p] w fun e w' => e = .returned (.tuple #[.string ⟨(Lib.trimPrefix s.data.toList p.data.toList).toArray⟩, .bool (Lib.hasPrefix s.data.toList p.data.toList)]) ∧ w' = w := Any.strings_CutPrefix Tryz.lays103 s p w
def Tryz.lays144_ren : Go.Shelf.Ren := ⟨fun | 144 => 303 | 143 => 333 | 219 => 359 | 217 => 358 | 225 => 332 | 224 => 331 | 267 => 377 | 266 => 376 | 314 => 384 | n => n, fun | 9 => 9 | 4 => 4 | 3 => 3 | 5 => 5 | 46 => 182 | 146 => 253 | 51 => 252 | n => n, fun | 1 => 0 | n => n⟩
theorem Tryz.lays144 : Go.Proofs.Lays.n144 Tryz.prog Tryz.lays144_ren := {
  mixed := by kernel_rfl
  f143 := Tryz.func333.trans (congrArg some (by kernel_rfl))
  f144 := Tryz.func303.trans (congrArg some (by kernel_rfl))
  f217 := Tryz.func358.trans (congrArg some (by kernel_rfl))
  f219 := Tryz.func359.trans (congrArg some (by kernel_rfl))
  f224 := Tryz.func331.trans (congrArg some (by kernel_rfl))
  f225 := Tryz.func332.trans (congrArg some (by kernel_rfl))
  f266 := Tryz.func376.trans (congrArg some (by kernel_rfl))
  f267 := Tryz.func377.trans (congrArg some (by kernel_rfl))
  f314 := Tryz.func384.trans (congrArg some (by kernel_rfl))
  t3 := Tryz.underlying3
  a3 := Tryz.isAgg3
  z3 := Tryz.sizeOf3
  v3 := Tryz.zeroValue3
  t4 := Tryz.underlying4
  a4 := Tryz.isAgg4
  z4 := Tryz.sizeOf4
  v4 := Tryz.zeroValue4
  t5 := Tryz.underlying5
  a5 := Tryz.isAgg5
  z5 := Tryz.sizeOf5
  v5 := Tryz.zeroValue5
  t9 := Tryz.underlying9
  a9 := Tryz.isAgg9
  z9 := Tryz.sizeOf9
  v9 := Tryz.zeroValue9
  t46 := Tryz.underlying182
  a46 := Tryz.isAgg182
  z46 := Tryz.sizeOf182
  v46 := Tryz.zeroValue182
  t51 := Tryz.underlying252
  a51 := Tryz.isAgg252
  z51 := Tryz.sizeOf252
  v51 := Tryz.zeroValue252
  t146 := Tryz.underlying253
  a146 := Tryz.isAgg253
  z146 := Tryz.sizeOf253
  v146 := Tryz.zeroValue253
  g1 := by kernel_rfl }
open Go.RowKit Go.Lib in
theorem Tryz.strings_Contains_one (s : ByteArray) (c : UInt8) (w : World) :
    Calls Tryz.prog 303 #[.string s, .string ⟨#[c]⟩] w fun e w' => e = .returned (.bool (decide (0 ≤ Lib.indexByte s.data.toList c))) ∧ w' = w := Any.strings_Contains_one Tryz.lays144 s c w
def Tryz.lays145_ren : Go.Shelf.Ren := ⟨fun | 145 => 335 | 220 => 360 | 219 => 359 | 217 => 358 | 225 => 332 | 224 => 331 | 267 => 377 | 266 => 376 | 314 => 384 | n => n, fun | 9 => 9 | 4 => 4 | 59 => 441 | 3 => 3 | 5 => 5 | 46 => 182 | 146 => 253 | 51 => 252 | n => n, fun | 1 => 0 | n => n⟩
theorem Tryz.lays145 : Go.Proofs.Lays.n145 Tryz.prog Tryz.lays145_ren := {
  mixed := by kernel_rfl
  f145 := Tryz.func335.trans (congrArg some (by kernel_rfl))
  f217 := Tryz.func358.trans (congrArg some (by kernel_rfl))
  f219 := Tryz.func359.trans (congrArg some (by kernel_rfl))
  f220 := Tryz.func360.trans (congrArg some (by kernel_rfl))
  f224 := Tryz.func331.trans (congrArg some (by kernel_rfl))
  f225 := Tryz.func332.trans (congrArg some (by kernel_rfl))
  f266 := Tryz.func376.trans (congrArg some (by kernel_rfl))
  f267 := Tryz.func377.trans (congrArg some (by kernel_rfl))
  f314 := Tryz.func384.trans (congrArg some (by kernel_rfl))
  t3 := Tryz.underlying3
  a3 := Tryz.isAgg3
  z3 := Tryz.sizeOf3
  v3 := Tryz.zeroValue3
  t4 := Tryz.underlying4
  a4 := Tryz.isAgg4
  z4 := Tryz.sizeOf4
  v4 := Tryz.zeroValue4
  t5 := Tryz.underlying5
  a5 := Tryz.isAgg5
  z5 := Tryz.sizeOf5
  v5 := Tryz.zeroValue5
  t9 := Tryz.underlying9
  a9 := Tryz.isAgg9
  z9 := Tryz.sizeOf9
  v9 := Tryz.zeroValue9
  t46 := Tryz.underlying182
  a46 := Tryz.isAgg182
  z46 := Tryz.sizeOf182
  v46 := Tryz.zeroValue182
  t51 := Tryz.underlying252
  a51 := Tryz.isAgg252
  z51 := Tryz.sizeOf252
  v51 := Tryz.zeroValue252
  t59 := Tryz.underlying441
  a59 := Tryz.isAgg441
  z59 := Tryz.sizeOf441
  v59 := Tryz.zeroValue441
  t146 := Tryz.underlying253
  a146 := Tryz.isAgg253
  z146 := Tryz.sizeOf253
  v146 := Tryz.zeroValue253
  g1 := by kernel_rfl }
open Go.RowKit Go.Lib in
theorem Tryz.strings_Cut (s sep : ByteArray) (m : Int) (w : World) (hs : s.size < 4294967281) (hm : w.cell? ⟨0, 0, none⟩ = some (.int .i64 m)) :
    Calls Tryz.prog 335 #[.string s, .string sep] w fun e w' => e = .returned (.tuple #[.string ⟨(Lib.cut s.data.toList sep.data.toList).1.toArray⟩, .string ⟨(Lib.cut s.data.toList sep.data.toList).2.1.toArray⟩, .bool (Lib.cut s.data.toList sep.data.toList).2.2]) ∧ ∃ n, w' = w.drewN n := Any.strings_Cut Tryz.lays145 s sep m w hs hm
def Tryz.lays105_ren : Go.Shelf.Ren := ⟨fun | 105 => 48 | 212 => 82 | 99 => 83 | 165 => 84 | 166 => 85 | 170 => 86 | 169 => 87 | 263 => 136 | 264 => 137 | 206 => 138 | 240 => 139 | 241 => 140 | 276 => 210 | 277 => 211 | n => n, fun | 9 => 9 | 3 => 3 | 4 => 4 | 20 => 20 | 0 => 0 | 46 => 182 | 109 => 183 | 5 => 5 | 72 => 189 | 76 => 192 | 51 => 252 | 146 => 253 | 53 => 101 | 148 => 255 | 70 => 186 | 37 => 187 | 75 => 191 | 127 => 257 | 164 => 327 | 80 => 194 | n => n, fun | n => n⟩
theorem Tryz.lays105 : Go.Proofs.Lays.n105 Tryz.prog Tryz.lays105_ren := {
  mixed := by kernel_rfl
  f99 := Tryz.func83.trans (congrArg some (by kernel_rfl))
  f105 := Tryz.func48.trans (congrArg some (by kernel_rfl))
  f165 := Tryz.func84.trans (congrArg some (by kernel_rfl))
  f166 := Tryz.func85.trans (congrArg some (by kernel_rfl))
  f169 := Tryz.func87.trans (congrArg some (by kernel_rfl))
  f170 := Tryz.func86.trans (congrArg some (by kernel_rfl))
  f206 := Tryz.func138.trans (congrArg some (by kernel_rfl))
  f212 := Tryz.func82.trans (congrArg some (by kernel_rfl))
  f240 := Tryz.func139.trans (congrArg some (by kernel_rfl))
  f241 := Tryz.func140.trans (congrArg some (by kernel_rfl))
  f263 := Tryz.func136.trans (congrArg some (by kernel_rfl))
  f264 := Tryz.func137.trans (congrArg some (by kernel_rfl))
  f276 := Tryz.func210.trans (congrArg some (by kernel_rfl))
  f277 := Tryz.func211.trans (congrArg some (by kernel_rfl))
  t0 := Tryz.underlying0
  a0 := Tryz.isAgg0
  z0 := Tryz.sizeOf0
  v0 := Tryz.zeroValue0
  t3 := Tryz.underlying3
  a3 := Tryz.isAgg3
  z3 := Tryz.sizeOf3
  v3 := Tryz.zeroValue3
  t4 := Tryz.underlying4
  a4 := Tryz.isAgg4
  z4 := Tryz.sizeOf4
  v4 := Tryz.zeroValue4
  t5 := Tryz.underlying5
  a5 := Tryz.isAgg5
  z5 := Tryz.sizeOf5
  v5 := Tryz.zeroValue5
  t9 := Tryz.underlying9
  a9 := Tryz.isAgg9
  z9 := Tryz.sizeOf9
  v9 := Tryz.zeroValue9
  t20 := Tryz.underlying20
  a20 := Tryz.isAgg20
  z20 := Tryz.sizeOf20
  v20 := Tryz.zeroValue20
  t37 := Tryz.underlying187
  a37 := Tryz.isAgg187
  z37 := Tryz.sizeOf187
  v37 := Tryz.zeroValue187
  t46 := Tryz.underlying182
  a46 := Tryz.isAgg182
  z46 := Tryz.sizeOf182
  v46 := Tryz.zeroValue182
  t51 := Tryz.underlying252
  a51 := Tryz.isAgg252
  z51 := Tryz.sizeOf252
  v51 := Tryz.zeroValue252
  t53 := Tryz.underlying101
  a53 := Tryz.isAgg101
  z53 := Tryz.sizeOf101
  v53 := Tryz.zeroValue101
  t70 := Tryz.underlying186
  a70 := Tryz.isAgg186
  z70 := Tryz.sizeOf186
  v70 := Tryz.zeroValue186
  t72 := Tryz.underlying189
  a72 := Tryz.isAgg189
  z72 := Tryz.sizeOf189
  v72 := Tryz.zeroValue189
  t75 := Tryz.underlying191
  a75 := Tryz.isAgg191
  z75 := Tryz.sizeOf191
  v75 := Tryz.zeroValue191
  t76 := Tryz.underlying192
  a76 := Tryz.isAgg192
  z76 := Tryz.sizeOf192
  v76 := Tryz.zeroValue192
  t109 := Tryz.underlying183
  a109 := Tryz.isAgg183
  z109 := Tryz.sizeOf183
  v109 := Tryz.zeroValue183
  t127 := Tryz.underlying257
  a127 := Tryz.isAgg257
  z127 := Tryz.sizeOf257
  v127 := Tryz.zeroValue257
  t146 := Tryz.underlying253
  a146 := Tryz.isAgg253
  z146 := Tryz.sizeOf253
  v146 := Tryz.zeroValue253
  t148 := Tryz.underlying255
  a148 := Tryz.isAgg255
  z148 := Tryz.sizeOf255
  v148 := Tryz.zeroValue255
  t164 := Tryz.underlying327
  a164 := Tryz.isAgg327
  z164 := Tryz.sizeOf327
  v164 := Tryz.zeroValue327 }
theorem Tryz.Builder_Extra_105 : Builder.Extra Tryz.prog Tryz.lays105_ren := {
  sizeBuilder := by kernel_rfl
  liesBuilder := by kernel_rfl
  t5 := Tryz.underlying5
  a5 := Tryz.isAgg5
  z5 := Tryz.sizeOf5
  v5 := Tryz.zeroValue5
  infoByte := by kernel_rfl
  cellsByte := by kernel_rfl
  sizeByte := by kernel_rfl
  neB5 := by decide }
open Go.RowKit Go.Lib in
theorem Tryz.strings_Repeat (s : ByteArray) (c : Nat) (w : World) (hc : c ≤ 9223372036854775807) (hlen : s.size * c ≤ 140737488355328) :
    Calls Tryz.prog 48 #[.string s, .int .i64 c] w fun e w' => e = .returned (.string ⟨(Lib.repeatL s.data.toList c).toArray⟩) ∧ Below w.heap.size w w' := Any.strings_Repeat Tryz.lays105 Tryz.Builder_Extra_105 s c w hc hlen
end Go.Proofs
namespace Go.Proofs.YtfdijpacbhomjaaGreatDoor.Abs
open Go Go.RowKit
theorem cutPrefix_spec (s p : ByteArray) (m : Mem) :
    Spec Tryz.prog 144 [.string s, .string p] m fun u M => u = .tuple #[.string (str (Lib.trimPrefix s.data.toList p.data.toList)), .bool (Lib.hasPrefix s.data.toList p.data.toList)] ∧ M = m :=
  Spec.of_below rfl fun ι w ys hy hr => by
    rw [flats_eq (by simp [flat]) hy]
    refine (Tryz.strings_CutPrefix s p w).mono ?_
    rintro e w' ⟨rfl, rfl⟩
    exact ⟨rfl, Below.refl _ _⟩
end Go.Proofs.YtfdijpacbhomjaaGreatDoor.Abs
namespace Go.Proofs.YtfdijpacbhomjaaGreatDoor.Abs
open Go Go.RowKit
theorem trim_spec (s : ByteArray) (c : UInt8) (hc : c.toNat < 128) (hs : s.size ≤ 9223372036854775807) (m : Mem) :
    Spec Tryz.prog 145 [.string s, .string (str [c])] m fun u M => u = .string (str (Lib.trimB s.data.toList c)) ∧ M = m :=
  Spec.of_below rfl fun ι w ys hy hr => by
    rw [flats_eq (by simp [flat]) hy]
    refine (Tryz.strings_Trim_one s c hc w hs).mono ?_
    rintro e w' ⟨rfl, rfl | rfl⟩
    · exact ⟨rfl, Below.refl _ _⟩
    · exact ⟨rfl, rfl, rfl, rfl, Nat.le_refl _, fun _ _ => rfl⟩
theorem repeat_spec (s : ByteArray) (c : Nat) (hc : c ≤ 9223372036854775807) (hlen : s.size * c ≤ 140737488355328) (m : Mem) :
    Spec Tryz.prog 48 [.string s, .int .i64 c] m fun u M => u = .string (str (Lib.repeatL s.data.toList c)) ∧ M = m :=
  Spec.of_below rfl fun ι w ys hy hr => by
    rw [flats_eq (by simp [flat]) hy]
    refine (Tryz.strings_Repeat s c w hc hlen).mono ?_
    rintro e w' ⟨rfl, hb⟩
    exact ⟨rfl, hb⟩
end Go.Proofs.YtfdijpacbhomjaaGreatDoor.Abs
namespace Go.Proofs.YtfdijpacbhomjaaGreatDoor
open Go.RowKit Abs
theorem fa_Dsk0 (b o : Nat) : aFieldAddr Tryz.prog 130 (.pointer (some ⟨b, o, none⟩)) 0 = some (.pointer (some ⟨b, o, none⟩)) := by kernel_rfl
theorem fa_Dsk1 (b o : Nat) : aFieldAddr Tryz.prog 130 (.pointer (some ⟨b, o, none⟩)) 1 = some (.pointer (some ⟨b, o + 1, none⟩)) := by kernel_rfl
theorem fa_Dsk2 (b o : Nat) : aFieldAddr Tryz.prog 130 (.pointer (some ⟨b, o, none⟩)) 2 = some (.pointer (some ⟨b, o + 2, none⟩)) := by kernel_rfl
theorem fa_Dsk3 (b o : Nat) : aFieldAddr Tryz.prog 130 (.pointer (some ⟨b, o, none⟩)) 3 = some (.pointer (some ⟨b, o + 3, none⟩)) := by kernel_rfl
theorem inf_Hdr : Tryz.prog.info? 81 = some Tryz.t81 := by kernel_rfl
theorem ld_Hdr (get : Nat → Option Blk) (b o : Nat) : gLoad Tryz.prog get 81 (.pointer (some ⟨b, o, none⟩)) = rowIn 7 o (get b) := ld_row Tryz.underlying81 (row_struct _) inf_Hdr rfl get b o
theorem fa_Hdr0 (b o : Nat) : aFieldAddr Tryz.prog 81 (.pointer (some ⟨b, o, none⟩)) 0 = some (.pointer (some ⟨b, o, none⟩)) := by kernel_rfl
theorem fa_Hdr2 (b o : Nat) : aFieldAddr Tryz.prog 81 (.pointer (some ⟨b, o, none⟩)) 2 = some (.pointer (some ⟨b, o + 2, none⟩)) := by kernel_rfl
theorem inf_Set : Tryz.prog.info? 104 = some Tryz.t104 := by kernel_rfl
theorem ld_Set (get : Nat → Option Blk) (b o : Nat) : gLoad Tryz.prog get 104 (.pointer (some ⟨b, o, none⟩)) = rowIn 5 o (get b) := ld_row Tryz.underlying104 (row_struct _) inf_Set rfl get b o
theorem st_Set (m : Mem) (b o : Nat) (v : Value) : aStore Tryz.prog m 104 (.pointer (some ⟨b, o, none⟩)) v = putIn 5 m b o v.cells.toList (m.get b) := st_any inf_Set rfl m b o v
theorem al_Set : nAlloc Tryz.prog 104 = some (.cells false (aStride Tryz.prog 104) [.int .i64 0, .int .u64 0, .int .u64 0, .int .u64 0, .int .u64 0]) := by kernel_rfl
theorem bx_Set (xs : Array Value) (h : oneAll xs.toList = true) : nBox Tryz.prog 104 (.agg xs) = some (.cells false (aStride Tryz.prog 104) xs.toList) := nBox_row 104 h
theorem fa_Set0 (b o : Nat) : aFieldAddr Tryz.prog 104 (.pointer (some ⟨b, o, none⟩)) 0 = some (.pointer (some ⟨b, o, none⟩)) := by kernel_rfl
theorem fa_Set1 (b o : Nat) : aFieldAddr Tryz.prog 104 (.pointer (some ⟨b, o, none⟩)) 1 = some (.pointer (some ⟨b, o + 1, none⟩)) := by kernel_rfl
theorem inf_Arc : Tryz.prog.info? 93 = some Tryz.t93 := by kernel_rfl
theorem sz_Arc : Tryz.t93.size = 8 := rfl
theorem ld_Arc (get : Nat → Option Blk) (b o : Nat) : gLoad Tryz.prog get 93 (.pointer (some ⟨b, o, none⟩)) = rowIn 8 o (get b) := ld_row Tryz.underlying93 (row_struct _) inf_Arc rfl get b o
theorem st_Arc (m : Mem) (b o : Nat) (v : Value) : aStore Tryz.prog m 93 (.pointer (some ⟨b, o, none⟩)) v = putIn 8 m b o v.cells.toList (m.get b) := st_any inf_Arc rfl m b o v
theorem al_Arc : nAlloc Tryz.prog 93 = some (.cells false (aStride Tryz.prog 93) [.int .i64 0, .string ⟨#[]⟩, .int .i64 0, .int .i64 0, .int .i64 0, .string ⟨#[]⟩, .string ⟨#[]⟩, .slice none 0 0]) := by kernel_rfl
theorem bx_Arc (xs : Array Value) (h : oneAll xs.toList = true) : nBox Tryz.prog 93 (.agg xs) = some (.cells false (aStride Tryz.prog 93) xs.toList) := nBox_row 93 h
theorem fa_Arc0 (b o : Nat) : aFieldAddr Tryz.prog 93 (.pointer (some ⟨b, o, none⟩)) 0 = some (.pointer (some ⟨b, o, none⟩)) := by kernel_rfl
theorem fa_Arc1 (b o : Nat) : aFieldAddr Tryz.prog 93 (.pointer (some ⟨b, o, none⟩)) 1 = some (.pointer (some ⟨b, o + 7, none⟩)) := by kernel_rfl
theorem inf_W4 : Tryz.prog.info? 102 = some Tryz.t102 := by kernel_rfl
theorem ld_W4 (get : Nat → Option Blk) (b o : Nat) : gLoad Tryz.prog get 102 (.pointer (some ⟨b, o, none⟩)) = rowIn 4 o (get b) := ld_row Tryz.underlying102 (row_array _ _) inf_W4 rfl get b o
theorem inf_Str : Tryz.prog.info? 9 = some Tryz.t9 := by kernel_rfl
theorem ld_Str (get : Nat → Option Blk) (b o : Nat) : gLoad Tryz.prog get 9 (.pointer (some ⟨b, o, none⟩)) = cellIn o (get b) := ld_cell Tryz.underlying9 rfl get b o
theorem st_Str (m : Mem) (b o : Nat) (v : Value) : aStore Tryz.prog m 9 (.pointer (some ⟨b, o, none⟩)) v = putIn 1 m b o v.cells.toList (m.get b) := st_any inf_Str rfl m b o v
theorem inf_Int : Tryz.prog.info? 3 = some Tryz.t3 := by kernel_rfl
theorem sz_Int : Tryz.t3.size = 1 := rfl
theorem ld_Int (get : Nat → Option Blk) (b o : Nat) : gLoad Tryz.prog get 3 (.pointer (some ⟨b, o, none⟩)) = cellIn o (get b) := ld_cell Tryz.underlying3 rfl get b o
theorem st_Int (m : Mem) (b o : Nat) (v : Value) : aStore Tryz.prog m 3 (.pointer (some ⟨b, o, none⟩)) v = putIn 1 m b o v.cells.toList (m.get b) := st_any inf_Int rfl m b o v
theorem al_Int : nAlloc Tryz.prog 3 = some (.cells false (aStride Tryz.prog 3) [.int .i64 0]) := by kernel_rfl
theorem inf_Bool : Tryz.prog.info? 4 = some Tryz.t4 := by kernel_rfl
theorem sz_Bool : Tryz.t4.size = 1 := rfl
theorem ld_Bool (get : Nat → Option Blk) (b o : Nat) : gLoad Tryz.prog get 4 (.pointer (some ⟨b, o, none⟩)) = cellIn o (get b) := ld_cell Tryz.underlying4 rfl get b o
theorem st_Bool (m : Mem) (b o : Nat) (v : Value) : aStore Tryz.prog m 4 (.pointer (some ⟨b, o, none⟩)) v = putIn 1 m b o v.cells.toList (m.get b) := st_any inf_Bool rfl m b o v
theorem inf_U64 : Tryz.prog.info? 101 = some Tryz.t101 := by kernel_rfl
theorem sz_U64 : Tryz.t101.size = 1 := rfl
theorem ld_U64 (get : Nat → Option Blk) (b o : Nat) : gLoad Tryz.prog get 101 (.pointer (some ⟨b, o, none⟩)) = cellIn o (get b) := ld_cell Tryz.underlying101 rfl get b o
theorem st_U64 (m : Mem) (b o : Nat) (v : Value) : aStore Tryz.prog m 101 (.pointer (some ⟨b, o, none⟩)) v = putIn 1 m b o v.cells.toList (m.get b) := st_any inf_U64 rfl m b o v
theorem ld_SS (get : Nat → Option Blk) (b o : Nat) : gLoad Tryz.prog get 36 (.pointer (some ⟨b, o, none⟩)) = cellIn o (get b) := ld_cell Tryz.underlying36 rfl get b o
theorem inf_Err : Tryz.prog.info? 28 = some Tryz.t28 := by kernel_rfl
theorem ld_Err (get : Nat → Option Blk) (b o : Nat) : gLoad Tryz.prog get 28 (.pointer (some ⟨b, o, none⟩)) = cellIn o (get b) := ld_cell Tryz.underlying28 rfl get b o
theorem st_Err (m : Mem) (b o : Nat) (v : Value) : aStore Tryz.prog m 28 (.pointer (some ⟨b, o, none⟩)) v = putIn 1 m b o v.cells.toList (m.get b) := st_any inf_Err rfl m b o v
theorem al_Err : nAlloc Tryz.prog 28 = some (.cells false (aStride Tryz.prog 28) [.int .i64 0]) := by kernel_rfl
theorem ld_Map (get : Nat → Option Blk) (b o : Nat) : gLoad Tryz.prog get 128 (.pointer (some ⟨b, o, none⟩)) = cellIn o (get b) := ld_cell Tryz.underlying128 rfl get b o
theorem ld_Arcs (get : Nat → Option Blk) (b o : Nat) : gLoad Tryz.prog get 47 (.pointer (some ⟨b, o, none⟩)) = cellIn o (get b) := ld_cell Tryz.underlying47 rfl get b o
theorem ld_Ints (get : Nat → Option Blk) (b o : Nat) : gLoad Tryz.prog get 50 (.pointer (some ⟨b, o, none⟩)) = cellIn o (get b) := ld_cell Tryz.underlying50 rfl get b o
theorem cl_int (k : IntKind) (n : Int) : (Value.int k n).cells.toList = [.int k n] := rfl
theorem oc_int (k : IntKind) (n : Int) : (Value.int k n).oneCell' = true := rfl
theorem cl_string (s : ByteArray) : (Value.string s).cells.toList = [.string s] := rfl
theorem cl_bool (b : Bool) : (Value.bool b).cells.toList = [.bool b] := rfl
theorem oc_bool (b : Bool) : (Value.bool b).oneCell' = true := rfl
theorem oa_cons (v : Value) (r : List Value) : oneAll (v :: r) = (v.oneCell' && oneAll r) := rfl
theorem oa_nil : oneAll [] = true := rfl
theorem undef_eq : undef = .tuple #[] := rfl
theorem pt_1_0_1 (m : Mem) (j s : Nat) (a0 x0 : Value) (h : oneAll [x0] = true) : putIn 1 m j 0 [x0] (some (.cells false s [a0])) = some (m.set j (some (.cells false s [x0]))) := if_pos ⟨rfl, Nat.le_of_ble_eq_true rfl, h⟩
theorem pt_4_2_1 (m : Mem) (j s : Nat) (a0 a1 a2 a3 x0 : Value) (h : oneAll [x0] = true) : putIn 1 m j 2 [x0] (some (.cells false s [a0, a1, a2, a3])) = some (m.set j (some (.cells false s [a0, a1, x0, a3]))) := if_pos ⟨rfl, Nat.le_of_ble_eq_true rfl, h⟩
theorem pt_4_3_1 (m : Mem) (j s : Nat) (a0 a1 a2 a3 x0 : Value) (h : oneAll [x0] = true) : putIn 1 m j 3 [x0] (some (.cells false s [a0, a1, a2, a3])) = some (m.set j (some (.cells false s [a0, a1, a2, x0]))) := if_pos ⟨rfl, Nat.le_of_ble_eq_true rfl, h⟩
def zDk := And.intro (And.intro (And.intro (And.intro (And.intro @fa_Dsk0 (And.intro @fa_Dsk1 @fa_Dsk2)) (And.intro (And.intro @fa_Dsk3 @ld_Hdr) (And.intro @fa_Hdr0 @fa_Hdr2))) (And.intro (And.intro @ld_Set (And.intro @st_Set @fa_Set0)) (And.intro (And.intro @fa_Set1 @inf_Arc) (And.intro @sz_Arc @ld_Arc)))) (And.intro (And.intro (And.intro @st_Arc (And.intro @fa_Arc0 @fa_Arc1)) (And.intro (And.intro @ld_W4 @ld_Str) (And.intro @st_Str @ld_Int))) (And.intro (And.intro (And.intro @st_Int @al_Int) (And.intro @inf_Bool @sz_Bool)) (And.intro (And.intro @ld_Bool @st_Bool) (And.intro @inf_U64 @sz_U64))))) (And.intro (And.intro (And.intro (And.intro @ld_U64 (And.intro @st_U64 @ld_SS)) (And.intro (And.intro @ld_Err @st_Err) (And.intro @al_Err @ld_Map))) (And.intro (And.intro @ld_Arcs (And.intro @ld_Ints Tryz.underlying3)) (And.intro (And.intro Tryz.underlying101 Tryz.underlying36) (And.intro Tryz.underlying47 Tryz.underlying105)))) (And.intro (And.intro (And.intro Tryz.underlying50 (And.intro Tryz.underlying102 @cl_int)) (And.intro (And.intro @oc_int @cl_string) (And.intro @cl_bool @oc_bool))) (And.intro (And.intro (And.intro @oa_cons @oa_nil) (And.intro @undef_eq @Bool.and_self)) (And.intro (And.intro @agg_cells @pt_1_0_1) (And.intro @pt_4_2_1 @pt_4_3_1)))))
end Go.Proofs.YtfdijpacbhomjaaGreatDoor
