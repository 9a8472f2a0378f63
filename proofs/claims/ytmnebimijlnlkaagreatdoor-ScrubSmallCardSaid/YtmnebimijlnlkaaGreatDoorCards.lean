/-
  DERIVED. GIVEN WITH THE SEED: THE CARDS: each row of YtmnebimijlnlkaaGreatDoorRows.lean that lists a variable, with what it lists TIED to the program's text (the seventh form; the later family's looks); each row that meets fmt, with fmt's text TOLD by the authors' own Lean function (tested against real Go, not proved from fmt's source: count such statements apart). THE CARD IS WHAT COUNTS. Prove the row's statement (the work); the ties are given (YtmnebimijlnlkaaGreatDoorTie.lean); close each card by the builder's one call (the guide's Derived/Test/ToyasCard.lean, 'card_holds'). Laid BY PROGRAM, IN A SANDBOX (cutbox-door.mjs). By AI agents, Wed Nov 11 2026. No macro, syntax, notation, axiom, sorry.
-/
import Derived.Test.YtmnebimijlnlkaaGreatDoorRows
import GoSem.ClaimSeven
namespace Go.Proofs.YtmnebimijlnlkaaGreatDoor
namespace Rows

/-- THE TIED CARD OF 'sledgelaw43.ScrubTexts'. -/
def scrubTextsCard : Claim7 := { stood := { row := scrubTextsRow, standIns := [], harness := (true, "278a107372405018e2ecc69ca1f88dd198643c259bd6a5f4137dd33f27436dcc"), looks := false }, kinds := [], alts := [], laidByText := true, laidKinds := [.data, .data, .data, .data, .pinned], laidTests := true, laidLooks := .later }
def ScrubTextsCardSaid : Prop := Claim7.holds Tryz.pinned (.plain (OpenSpec.ofChange scrubTextsSpec)) scrubTextsCard

/-- THE TIED CARD OF 'sledgelaw43.ScrubSmall'. -/
def scrubSmallCard : Claim7 := { stood := { row := scrubSmallRow, standIns := [], harness := (true, "278a107372405018e2ecc69ca1f88dd198643c259bd6a5f4137dd33f27436dcc"), looks := false }, kinds := [], alts := [], laidByText := true, laidKinds := [.data, .data, .data, .data, .pinned], laidTests := true, laidLooks := .later }
def ScrubSmallCardSaid : Prop := Claim7.holds Tryz.pinned (.plain (OpenSpec.ofChange scrubSmallSpec)) scrubSmallCard

/-- THE TIED CARD OF 'sledgelaw42.TidySmall'. -/
def tidySmallCard : Claim7 := { stood := { row := tidySmallRow, standIns := [], harness := (true, "278a107372405018e2ecc69ca1f88dd198643c259bd6a5f4137dd33f27436dcc"), looks := false }, kinds := [], alts := [], laidByText := true, laidKinds := [.data, .pinned], laidTests := true, laidLooks := .later }
def TidySmallCardSaid : Prop := Claim7.holds Tryz.pinned (.plain (OpenSpec.ofChange tidySmallSpec)) tidySmallCard

/-- THE SECOND FORM's CARD OF 'sledgelaw43.ScrubTexts'. -/
def scrubTextsUptoCard : Claim7 := { stood := { row := scrubTextsUptoRow, standIns := [], harness := (true, "278a107372405018e2ecc69ca1f88dd198643c259bd6a5f4137dd33f27436dcc"), looks := false }, kinds := [], alts := [], laidByText := true, laidKinds := [.data, .data, .data, .data, .pinned], laidTests := true, laidLooks := .later }
def ScrubTextsUptoCardSaid : Prop := Claim7.holds Tryz.pinned (.plain (OpenSpec.upto scrubTextsSpec)) scrubTextsUptoCard

/-- THE SECOND FORM's CARD OF 'sledgelaw43.ScrubSmall'. -/
def scrubSmallUptoCard : Claim7 := { stood := { row := scrubSmallUptoRow, standIns := [], harness := (true, "278a107372405018e2ecc69ca1f88dd198643c259bd6a5f4137dd33f27436dcc"), looks := false }, kinds := [], alts := [], laidByText := true, laidKinds := [.data, .data, .data, .data, .pinned], laidTests := true, laidLooks := .later }
def ScrubSmallUptoCardSaid : Prop := Claim7.holds Tryz.pinned (.plain (OpenSpec.upto scrubSmallSpec)) scrubSmallUptoCard

/-- THE SECOND FORM's CARD OF 'sledgelaw42.TidySmall'. -/
def tidySmallUptoCard : Claim7 := { stood := { row := tidySmallUptoRow, standIns := [], harness := (true, "278a107372405018e2ecc69ca1f88dd198643c259bd6a5f4137dd33f27436dcc"), looks := false }, kinds := [], alts := [], laidByText := true, laidKinds := [.data, .pinned], laidTests := true, laidLooks := .later }
def TidySmallUptoCardSaid : Prop := Claim7.holds Tryz.pinned (.plain (OpenSpec.upto tidySmallSpec)) tidySmallUptoCard
end Rows
end Go.Proofs.YtmnebimijlnlkaaGreatDoor
