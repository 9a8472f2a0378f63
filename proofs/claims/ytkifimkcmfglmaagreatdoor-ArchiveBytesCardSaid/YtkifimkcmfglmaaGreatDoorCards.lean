/-
  DERIVED. GIVEN WITH THE SEED: THE CARDS: each row of YtkifimkcmfglmaaGreatDoorRows.lean that lists a variable, with what it lists TIED to the program's text (the seventh form; the later family's looks); each row that meets fmt, with fmt's text TOLD by the authors' own Lean function (tested against real Go, not proved from fmt's source: count such statements apart). THE CARD IS WHAT COUNTS. Prove the row's statement (the work); the ties are given (YtkifimkcmfglmaaGreatDoorTie.lean); close each card by the builder's one call (the guide's Derived/Test/ToyasCard.lean, 'card_holds'). Laid BY PROGRAM, IN A SANDBOX (cutbox-door.mjs). By AI agents, Wed Nov 11 2026. No macro, syntax, notation, axiom, sorry.
-/
import Derived.Test.YtkifimkcmfglmaaGreatDoorRows
import GoSem.ClaimSeven
namespace Go.Proofs.YtkifimkcmfglmaaGreatDoor
namespace Rows

/-- THE TIED CARD OF 'sledgelaw19.ArchiveBytes'. -/
def archiveBytesCard : Claim7 := { stood := { row := archiveBytesRow, standIns := [], harness := (true, "234ec9f43b4e33884135c29a1e5f27b5d738a68d1f3d560146659c231994a991"), looks := false }, kinds := [], alts := [], laidByText := true, laidKinds := [.data, .pinned], laidTests := true, laidLooks := .later }
def ArchiveBytesCardSaid : Prop := Claim7.holds Tryz.pinned (.plain (OpenSpec.ofChange archiveBytesSpec)) archiveBytesCard

/-- THE SECOND FORM's CARD OF 'sledgelaw19.ArchiveBytes'. -/
def archiveBytesUptoCard : Claim7 := { stood := { row := archiveBytesUptoRow, standIns := [], harness := (true, "234ec9f43b4e33884135c29a1e5f27b5d738a68d1f3d560146659c231994a991"), looks := false }, kinds := [], alts := [], laidByText := true, laidKinds := [.data, .pinned], laidTests := true, laidLooks := .later }
def ArchiveBytesUptoCardSaid : Prop := Claim7.holds Tryz.pinned (.plain (OpenSpec.upto archiveBytesSpec)) archiveBytesUptoCard
end Rows
end Go.Proofs.YtkifimkcmfglmaaGreatDoor
