/-
  DERIVED. GIVEN WITH THE SEED: THE CARDS: each row of YtofnagdofpcmpaaGreatDoorRows.lean that lists a variable, with what it lists TIED to the program's text (the seventh form; the later family's looks); each row that meets fmt, with fmt's text TOLD by the authors' own Lean function (tested against real Go, not proved from fmt's source: count such statements apart). THE CARD IS WHAT COUNTS. Prove the row's statement (the work); the ties are given (YtofnagdofpcmpaaGreatDoorTie.lean); close each card by the builder's one call (the guide's Derived/Test/ToyasCard.lean, 'card_holds'). Laid BY PROGRAM, IN A SANDBOX (cutbox-door.mjs). By AI agents, Wed Nov 11 2026. No macro, syntax, notation, axiom, sorry.
-/
import Derived.Test.YtofnagdofpcmpaaGreatDoorRows
import GoSem.ClaimSeven
namespace Go.Proofs.YtofnagdofpcmpaaGreatDoor
namespace Rows

/-- THE TIED CARD OF 'sledgelaw13.SolidSplits'. -/
def solidSplitsCard : Claim7 := { stood := { row := solidSplitsRow, standIns := [], harness := (true, "3179aff9621cb787e1fdca01b9142aee78a40ad91fb238380ab69968364ff69d"), looks := false }, kinds := [], alts := [], laidByText := true, laidKinds := [.data, .pinned], laidTests := true, laidLooks := .later }
def SolidSplitsCardSaid : Prop := Claim7.holds Tryz.pinned (.plain (OpenSpec.ofChange solidSplitsSpec)) solidSplitsCard

/-- THE TIED CARD OF 'sledgelaw13.SolidJoins'. -/
def solidJoinsCard : Claim7 := { stood := { row := solidJoinsRow, standIns := [], harness := (true, "3179aff9621cb787e1fdca01b9142aee78a40ad91fb238380ab69968364ff69d"), looks := false }, kinds := [], alts := [], laidByText := true, laidKinds := [.data, .pinned], laidTests := true, laidLooks := .later }
def SolidJoinsCardSaid : Prop := Claim7.holds Tryz.pinned (.plain (OpenSpec.ofChange solidJoinsSpec)) solidJoinsCard

/-- THE TIED CARD OF 'sledgelaw19.ArchiveSame'. -/
def archiveSameCard : Claim7 := { stood := { row := archiveSameRow, standIns := [], harness := (true, "3179aff9621cb787e1fdca01b9142aee78a40ad91fb238380ab69968364ff69d"), looks := false }, kinds := [], alts := [], laidByText := true, laidKinds := [.data, .pinned], laidTests := true, laidLooks := .later }
def ArchiveSameCardSaid : Prop := Claim7.holds Tryz.pinned (.plain (OpenSpec.ofChange archiveSameSpec)) archiveSameCard

/-- THE SECOND FORM's CARD OF 'sledgelaw13.SolidSplits'. -/
def solidSplitsUptoCard : Claim7 := { stood := { row := solidSplitsUptoRow, standIns := [], harness := (true, "3179aff9621cb787e1fdca01b9142aee78a40ad91fb238380ab69968364ff69d"), looks := false }, kinds := [], alts := [], laidByText := true, laidKinds := [.data, .pinned], laidTests := true, laidLooks := .later }
def SolidSplitsUptoCardSaid : Prop := Claim7.holds Tryz.pinned (.plain (OpenSpec.upto solidSplitsSpec)) solidSplitsUptoCard

/-- THE SECOND FORM's CARD OF 'sledgelaw13.SolidJoins'. -/
def solidJoinsUptoCard : Claim7 := { stood := { row := solidJoinsUptoRow, standIns := [], harness := (true, "3179aff9621cb787e1fdca01b9142aee78a40ad91fb238380ab69968364ff69d"), looks := false }, kinds := [], alts := [], laidByText := true, laidKinds := [.data, .pinned], laidTests := true, laidLooks := .later }
def SolidJoinsUptoCardSaid : Prop := Claim7.holds Tryz.pinned (.plain (OpenSpec.upto solidJoinsSpec)) solidJoinsUptoCard

/-- THE SECOND FORM's CARD OF 'sledgelaw19.ArchiveSame'. -/
def archiveSameUptoCard : Claim7 := { stood := { row := archiveSameUptoRow, standIns := [], harness := (true, "3179aff9621cb787e1fdca01b9142aee78a40ad91fb238380ab69968364ff69d"), looks := false }, kinds := [], alts := [], laidByText := true, laidKinds := [.data, .pinned], laidTests := true, laidLooks := .later }
def ArchiveSameUptoCardSaid : Prop := Claim7.holds Tryz.pinned (.plain (OpenSpec.upto archiveSameSpec)) archiveSameUptoCard
end Rows
end Go.Proofs.YtofnagdofpcmpaaGreatDoor
