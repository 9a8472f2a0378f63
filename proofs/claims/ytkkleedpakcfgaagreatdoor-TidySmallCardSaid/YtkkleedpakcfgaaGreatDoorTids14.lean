/-
  Sectors of archives, and sets of blocks, in plain words.
  How many bits of a word are 1, plainly: the sums in fields come to the count.
  The walks of bitset: one number; how many.
  Texts, one behind the other; digits.
  The walks of bitset: how many, all, how it is laid, one within another one.
  The walks of bitset: new ones, one within another one, read.
  The walks of bitset: one within another one; a set is read.
  A text, cut.
  The walk of enc.Take, at eight bytes.
  What a disk's sectors may hold: writes, syncs, crashes, in plain words.
  What is laid in a sector is read as it was, in plain words.
  The walk of bitset.Take.
  The headers' and the catalogue's functions, flat.
  The walks of catalog: Check, Meet, Put.
  The walk of catalog.Take.
  The walks of journal: blank, Check, Put.
  The walk of journal.Take.
-/
import Derived.Test.YtkkleedpakcfgaaGreatDoorTids12
import Derived.Test.YtkkleedpakcfgaaGreatDoorTids13
import Derived.Test.YtkkleedpakcfgaaGreatDoorTids01
import Derived.Test.YtkkleedpakcfgaaGreatDoorTids02
import Derived.Test.YtkkleedpakcfgaaGreatDoorTids09
import Derived.Test.YtkkleedpakcfgaaGreatDoorTids10
import Derived.Lib.AtoiAllCases
import Derived.Lib.ItoaMem
import Derived.Test.YtkkleedpakcfgaaGreatDoorTids11
set_option linter.all false
namespace Go.Proofs.YtkkleedpakcfgaaGreatDoor
open Go.RowKit Abs
instance hdrDec : DecidableEq Header := fun a b =>
  if h : a.id = b.id ∧ a.salt = b.salt ∧ a.n = b.n ∧ a.bytes = b.bytes ∧ a.raw = b.raw ∧ a.root = b.root ∧ a.tag = b.tag then .isTrue (by
    obtain ⟨a0, a1, a2, a3, a4, a5, a6⟩ := a
    obtain ⟨b0, b1, b2, b3, b4, b5, b6⟩ := b
    obtain ⟨h0, h1, h2, h3, h4, h5, h6⟩ := h
    simp only at h0 h1 h2 h3 h4 h5 h6
    subst h0 h1 h2 h3 h4 h5 h6
    rfl) else .isFalse fun e => h (by subst e; exact ⟨rfl, rfl, rfl, rfl, rfl, rfl, rfl⟩)
structure Ext where
  head : Header
  base : Int
def leafV (b : List UInt8) : List UInt8 := Sha.sum (0 :: b)
end Go.Proofs.YtkkleedpakcfgaaGreatDoor
namespace Go.Proofs.YtkkleedpakcfgaaGreatDoor
open Go.RowKit Abs
theorem cat_str (a b : List UInt8) : bcat (str a) (str b) = str (a ++ b) := by
  unfold bcat str
  simp
theorem siz_str (a : List UInt8) : bsize (str a) = a.length := rfl
end Go.Proofs.YtkkleedpakcfgaaGreatDoor
namespace Go.Proofs.YtkkleedpakcfgaaGreatDoor
open Go.RowKit Abs
theorem slice_to (get : Nat → Option Blk) (s : ByteArray) (k : Nat) (h : k ≤ s.size) : gSlice Tryz.prog get 9 (.string s) none (some (.int .i64 (k : Int))) = some (.string (str (s.data.toList.take k))) := by
  have hbs : bsize s = s.size := rfl
  unfold gSlice aBound
  simp only [Tryz.underlying9, hbs]
  rw [if_pos (by omega)]
  rfl
end Go.Proofs.YtkkleedpakcfgaaGreatDoor
