/-
  The program's types in memory.
-/
import Derived.Test.YtpmgackgcefalaaRep
namespace Go.Proofs.Ytpmgackgcefalaa
open Go.ChangeShapes Go.WideShapes Go.ChangeAt Go.RowKit
structure Header where
  id : Int
  salt : ByteArray
  n : Int
  bytes : Int
  raw : Int
  root : ByteArray
  tag : ByteArray

def Header.cells (h : Header) : List Value := [.int .i64 h.id, .string h.salt, .int .i64 h.n, .int .i64 h.bytes, .int .i64 h.raw, .string h.root, .string h.tag]
def Header.wf (h : Header) : Prop := h.salt.size ≤ maxLen ∧ h.root.size ≤ maxLen ∧ h.tag.size ≤ maxLen ∧ (Lit.int .i64 h.id).wf = true ∧ (Lit.int .i64 h.n).wf = true ∧ (Lit.int .i64 h.bytes).wf = true ∧ (Lit.int .i64 h.raw).wf = true
def headerS : Shape Header := { n := 7, rep := fun _ cs h => cs = h.cells ∧ h.wf, len := fun h => by rw [h.1]; rfl, mono := fun h _ => h }

theorem cellsInt : Try.prog.cellsOf 3 = 1 := by kernel_rfl
theorem cellsStr : Try.prog.cellsOf 9 = 1 := by kernel_rfl
theorem trod_header {H : Type} {enc : TypeId × Value → H} {w : World} {base : Nat} (fuel : Nat) (cs : List Value) (x : DataW H × List MemPlace)
    (h : DataW.trod enc Try.prog w base (fun _ => true) true fuel 39 cs = some x) : ∃ a, headerS.rep w cs a := by
  obtain ⟨xs, n, rfl, rfl, hl, hlen, hf⟩ := DataW.trod_struct Try.underlying39 h
  have hl : cs.length = 7 := hl
  match cs, hl, xs, hlen with
  | [c0, c1, c2, c3, c4, c5, c6], _, [y0, y1, y2, y3, y4, y5, y6], _ =>
  obtain ⟨a0, r0, _, w0⟩ := DataW.trod_int Try.underlying3 (hf 0 _ rfl)
  obtain ⟨a1, r1, _, w1⟩ := DataW.trod_string Try.underlying9 (hf 1 _ rfl)
  obtain ⟨a2, r2, _, w2⟩ := DataW.trod_int Try.underlying3 (hf 2 _ rfl)
  obtain ⟨a3, r3, _, w3⟩ := DataW.trod_int Try.underlying3 (hf 3 _ rfl)
  obtain ⟨a4, r4, _, w4⟩ := DataW.trod_int Try.underlying3 (hf 4 _ rfl)
  obtain ⟨a5, r5, _, w5⟩ := DataW.trod_string Try.underlying9 (hf 5 _ rfl)
  obtain ⟨a6, r6, _, w6⟩ := DataW.trod_string Try.underlying9 (hf 6 _ rfl)
  simp [cellsInt, cellsStr] at r0 r1 r2 r3 r4 r5 r6
  exact ⟨⟨a0, a1, a2, a3, a4, a5, a6⟩, by simp [Header.cells, *], w1, w5, w6, w0, w2, w3, w4⟩

theorem cellsHeader : Try.prog.cellsOf 39 = 7 := by kernel_rfl

theorem open_headers {H : Type} {enc : TypeId × Value → H} {w : World} {base : Nat} {v : Value} {d : DataW H} {ps : List MemPlace}
    (hv : ∃ a len cap, v = .slice a len cap) (h : DataW.Trod enc Try.prog w base (fun _ => true) true 32 v d ps) : ∃ xs, SliceOf headerS w v xs :=
  open_sliceOf Try.underlying32 cellsHeader (by decide) (fun fuel cs x h => trod_header fuel cs x h) hv h
end Go.Proofs.Ytpmgackgcefalaa
