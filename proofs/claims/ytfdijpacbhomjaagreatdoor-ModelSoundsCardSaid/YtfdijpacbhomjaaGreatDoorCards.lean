/-
  DERIVED. GIVEN WITH THE SEED: THE CARDS: each row of YtfdijpacbhomjaaGreatDoorRows.lean that lists a variable, with what it lists TIED to the program's text (the seventh form; the later family's looks); each row that meets fmt, with fmt's text TOLD by the authors' own Lean function (tested against real Go, not proved from fmt's source: count such statements apart). THE CARD IS WHAT COUNTS. Prove the row's statement (the work); the ties are given (YtfdijpacbhomjaaGreatDoorTie.lean); close each card by the builder's one call (the guide's Derived/Test/ToyasCard.lean, 'card_holds'). Laid BY PROGRAM, IN A SANDBOX (cutbox-door.mjs). By AI agents, Wed Nov 11 2026. No macro, syntax, notation, axiom, sorry.
-/
import Derived.Test.YtfdijpacbhomjaaGreatDoorRows
import GoSem.ClaimSeven
namespace Go.Proofs.YtfdijpacbhomjaaGreatDoor
namespace Rows

/-- THE TIED CARD OF 'sledgelaw32.WorldNone'. -/
def worldNoneCard : Claim7 := { stood := { row := worldNoneRow, standIns := [], harness := (true, "cc6b0d75767e9fceffd03d6575a62f5f38a6cf66e512226fee242964021e1cf4"), looks := false }, kinds := [], alts := [], laidByText := true, laidKinds := [.data, .pinned], laidTests := true, laidLooks := .later }
def WorldNoneCardSaid : Prop := Claim7.holds Tryz.pinned (.plain (OpenSpec.ofChange worldNoneSpec)) worldNoneCard

/-- THE TIED CARD OF 'sledgelaw33.ModelSounds'. -/
def modelSoundsCard : Claim7 := { stood := { row := modelSoundsRow, standIns := [], harness := (true, "cc6b0d75767e9fceffd03d6575a62f5f38a6cf66e512226fee242964021e1cf4"), looks := false }, kinds := [], alts := [], laidByText := true, laidKinds := [.data, .pinned], laidTests := true, laidLooks := .later }
def ModelSoundsCardSaid : Prop := Claim7.holds Tryz.pinned (.plain (OpenSpec.ofChange modelSoundsSpec)) modelSoundsCard

/-- THE SECOND FORM's CARD OF 'sledgelaw32.WorldNone'. -/
def worldNoneUptoCard : Claim7 := { stood := { row := worldNoneUptoRow, standIns := [], harness := (true, "cc6b0d75767e9fceffd03d6575a62f5f38a6cf66e512226fee242964021e1cf4"), looks := false }, kinds := [], alts := [], laidByText := true, laidKinds := [.data, .pinned], laidTests := true, laidLooks := .later }
def WorldNoneUptoCardSaid : Prop := Claim7.holds Tryz.pinned (.plain (OpenSpec.upto worldNoneSpec)) worldNoneUptoCard

/-- THE SECOND FORM's CARD OF 'sledgelaw33.ModelSounds'. -/
def modelSoundsUptoCard : Claim7 := { stood := { row := modelSoundsUptoRow, standIns := [], harness := (true, "cc6b0d75767e9fceffd03d6575a62f5f38a6cf66e512226fee242964021e1cf4"), looks := false }, kinds := [], alts := [], laidByText := true, laidKinds := [.data, .pinned], laidTests := true, laidLooks := .later }
def ModelSoundsUptoCardSaid : Prop := Claim7.holds Tryz.pinned (.plain (OpenSpec.upto modelSoundsSpec)) modelSoundsUptoCard
end Rows
end Go.Proofs.YtfdijpacbhomjaaGreatDoor
