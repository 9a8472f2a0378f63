/-
  An archive's blocks, read.
  The walks of bitset: one within another one; a set is read.
  A text, cut.
  The walk of enc.Take, at eight bytes.
  What a disk's sectors may hold: writes, syncs, crashes, in plain words.
  What is laid in a sector is read as it was, in plain words.
  The walk of bitset.Take.
  The headers' and the catalogue's functions, flat.
  The walks of catalog: Check, Meet, Put.
  The walk of catalog.Take.
  The walks of journal: blank, Check, Put.
  The walk of journal.Take.
  A depot in memory; the walk of find.
  The walks of find, Head, Got.
  The walks of Got, Epoch, Staged, note, keep.
  The walk of keep; a depot turns.
  The walk of keep.
  The walk of Abort.
  The walk of Stage.
-/
import Derived.Test.YtfdijpacbhomjaaGreatDoorMsnd13
import Derived.Test.YtfdijpacbhomjaaGreatDoorMsnd10
import Derived.Test.YtfdijpacbhomjaaGreatDoorMsnd09
import Derived.Test.YtfdijpacbhomjaaGreatDoorMsnd12
import Derived.Test.YtfdijpacbhomjaaGreatDoorMsnd11
set_option linter.all false
namespace Go.Proofs.YtfdijpacbhomjaaGreatDoor
open Go.RowKit Abs
abbrev BlR (M : Mem) (V : Value) (xs : List ByteArray) : Prop := Rd M 1 V xs.length (xs.map .string)
theorem BlR.same {M M' : Mem} {V : Value} {xs : List ByteArray} (h : BlR M V xs) (hs : ∀ b x, M.get b = some x → M'.get b = some x) : BlR M' V xs := by
  obtain ⟨a, c, h1, h2, h3, h4, h5, h6⟩ := h
  refine ⟨a, c, h1, h2, h3, h4, h5, fun p hp => ?_⟩
  obtain ⟨b, h7, h8⟩ := h6 p hp
  refine ⟨b, h7, fun hk => ?_⟩
  obtain ⟨ro, h9⟩ := h8 hk
  exact ⟨ro, hs _ _ h9⟩
theorem BlR.cell {M : Mem} {a : Option Addr} {c : Nat} {xs : List ByteArray} (h : BlR M (.slice a xs.length c) xs) {i : Nat} {x : ByteArray} (hx : xs[i]? = some x) :
    ∃ g ro, a = some ⟨g, 0, none⟩ ∧ M.get g = some (.cells ro 1 (xs.map .string)) ∧ (xs.map Value.string)[i]? = some (.string x) := by
  have hi : i < xs.length := by rcases Nat.lt_or_ge i xs.length with h | h; exact h; rw [List.getElem?_eq_none h] at hx; cases hx
  obtain ⟨b, ro, h1, h2⟩ := Rd.at h (by omega)
  exact ⟨b, ro, h1, h2, by rw [List.getElem?_map, hx]; rfl⟩
theorem BlR.len {M : Mem} {V : Value} {xs : List ByteArray} (h : BlR M V xs) : ∃ a c, V = .slice a xs.length c := by
  obtain ⟨a, c, h1, _⟩ := h
  exact ⟨a, c, h1⟩
end Go.Proofs.YtfdijpacbhomjaaGreatDoor
