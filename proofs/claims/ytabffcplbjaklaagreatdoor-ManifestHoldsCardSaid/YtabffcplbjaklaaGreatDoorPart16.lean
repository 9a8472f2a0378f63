/-
  The document's answer for layer 3, walked on the abstract machine: tags.
  The walk of the reference's Put.
  The walk of the law ManifestPuts.
  Headers that came in, read off the abstract memory.
-/
import Derived.Test.YtabffcplbjaklaaGreatDoorPart15
import Derived.Test.YtabffcplbjaklaaGreatDoorPart01
import Derived.Test.YtabffcplbjaklaaGreatDoorPart10
import Derived.Test.YtabffcplbjaklaaGreatDoorPart11
import Derived.Test.YtabffcplbjaklaaGreatDoorPart09
import Derived.Test.YtabffcplbjaklaaGreatDoorPart08
set_option linter.unusedSimpArgs false
set_option linter.unusedVariables false
set_option linter.unusedSectionVars false
set_option linter.unnecessarySimpa false
set_option linter.defProp false
namespace Go.Proofs.YtabffcplbjaklaaGreatDoor
open Go.RowKit Abs
end Go.Proofs.YtabffcplbjaklaaGreatDoor
namespace Go.Proofs.YtabffcplbjaklaaGreatDoor
open Go.RowKit Abs Stab
end Go.Proofs.YtabffcplbjaklaaGreatDoor
namespace Go.Proofs.YtabffcplbjaklaaGreatDoor
open Go.RowKit Abs Stab
end Go.Proofs.YtabffcplbjaklaaGreatDoor
namespace Go.Proofs.YtabffcplbjaklaaGreatDoor
open Go.RowKit Abs
set_option maxRecDepth 100000 in
theorem rep_header {m : Mem} {B : Nat} {cs : List Value} (h : ARep Tryz.prog m B 40 cs) : ∃ x : Header, cs = x.cells ∧ ((Lit.int .i64 x.id).wf = true ∧ (Lit.int .i64 x.n).wf = true ∧ (Lit.int .i64 x.bytes).wf = true ∧ (Lit.int .i64 x.raw).wf = true) := by
  obtain ⟨hl, hf⟩ := h.inv_struct Tryz.underlying40
  rw [cellsHeader] at hl
  match cs, hl with
  | [c0, c1, c2, c3, c4, c5, c6], _ =>
  obtain ⟨a0, r0, w0⟩ := (hf 0 _ rfl).inv_int Tryz.underlying3
  obtain ⟨a1, r1, w1⟩ := (hf 1 _ rfl).inv_string Tryz.underlying9
  obtain ⟨a2, r2, w2⟩ := (hf 2 _ rfl).inv_int Tryz.underlying3
  obtain ⟨a3, r3, w3⟩ := (hf 3 _ rfl).inv_int Tryz.underlying3
  obtain ⟨a4, r4, w4⟩ := (hf 4 _ rfl).inv_int Tryz.underlying3
  obtain ⟨a5, r5, w5⟩ := (hf 5 _ rfl).inv_string Tryz.underlying9
  obtain ⟨a6, r6, w6⟩ := (hf 6 _ rfl).inv_string Tryz.underlying9
  simp [cellsInt, cellsStr] at r0 r1 r2 r3 r4 r5 r6
  exact ⟨⟨a0, a1, a2, a3, a4, a5, a6⟩, by simp [Header.cells, *], w0, w2, w3, w4⟩
set_option maxRecDepth 100000 in
theorem arg_hdrs {m : Mem} {B : Nat} {v : Value} (h : ArgOf Tryz.prog m B 22 v) :
    ∃ xs : List Header, Rd m 7 v xs.length (xs.flatMap Header.cells) ∧ (∀ x ∈ xs, (Lit.int .i64 x.id).wf = true ∧ (Lit.int .i64 x.n).wf = true ∧ (Lit.int .i64 x.bytes).wf = true ∧ (Lit.int .i64 x.raw).wf = true) ∧ xs.length ≤ B := by
  obtain ⟨v', xs, e1, h1, h2, h3⟩ := ARep.list Header.cells (fun x => (Lit.int .i64 x.id).wf = true ∧ (Lit.int .i64 x.n).wf = true ∧ (Lit.int .i64 x.bytes).wf = true ∧ (Lit.int .i64 x.raw).wf = true) Tryz.underlying22 cellsHeader (fun cs hc => rep_header hc) (arg_list Tryz.underlying22 h)
  cases e1
  exact ⟨xs, h1, h3, h2.1⟩
end Go.Proofs.YtabffcplbjaklaaGreatDoor
