/-
  DERIVED. GIVEN WITH THE SEED: THE CARDS: each row of YtkkleedpakcfgaaGreatDoorRows.lean that lists a variable, with what it lists TIED to the program's text (the seventh form; the later family's looks); each row that meets fmt, with fmt's text TOLD by the authors' own Lean function (tested against real Go, not proved from fmt's source: count such statements apart). THE CARD IS WHAT COUNTS. Prove the row's statement (the work); the ties are given (YtkkleedpakcfgaaGreatDoorTie.lean); close each card by the builder's one call (the guide's Derived/Test/ToyasCard.lean, 'card_holds'). Laid BY PROGRAM, IN A SANDBOX (cutbox-door.mjs). By AI agents, Wed Nov 11 2026. No macro, syntax, notation, axiom, sorry.
-/
import Derived.Test.YtkkleedpakcfgaaGreatDoorRows
import GoSem.ClaimSeven
namespace Go.Proofs.YtkkleedpakcfgaaGreatDoor
namespace Rows

/-- THE TIED CARD OF 'sledgelaw42.TidySmall'. -/
def tidySmallCard : Claim7 := { stood := { row := tidySmallRow, standIns := [], harness := (true, "a1967b7468cff3bc06a6bc305cd957cf5cbc183eea5096d17aac1235c9287011"), looks := false }, kinds := [], alts := [], laidByText := true, laidKinds := [.data, .pinned], laidTests := true, laidLooks := .later }
def TidySmallCardSaid : Prop := Claim7.holds Tryz.pinned (.plain (OpenSpec.ofChange tidySmallSpec)) tidySmallCard

/-- THE TIED CARD OF 'sledgelaw30.SenderNone'. -/
def senderNoneCard : Claim7 := { stood := { row := senderNoneRow, standIns := [], harness := (true, "a1967b7468cff3bc06a6bc305cd957cf5cbc183eea5096d17aac1235c9287011"), looks := false }, kinds := [], alts := [], laidByText := true, laidKinds := [.data, .pinned], laidTests := true, laidLooks := .later }
def SenderNoneCardSaid : Prop := Claim7.holds Tryz.pinned (.plain (OpenSpec.ofChange senderNoneSpec)) senderNoneCard

/-- THE SECOND FORM's CARD OF 'sledgelaw42.TidySmall'. -/
def tidySmallUptoCard : Claim7 := { stood := { row := tidySmallUptoRow, standIns := [], harness := (true, "a1967b7468cff3bc06a6bc305cd957cf5cbc183eea5096d17aac1235c9287011"), looks := false }, kinds := [], alts := [], laidByText := true, laidKinds := [.data, .pinned], laidTests := true, laidLooks := .later }
def TidySmallUptoCardSaid : Prop := Claim7.holds Tryz.pinned (.plain (OpenSpec.upto tidySmallSpec)) tidySmallUptoCard

/-- THE SECOND FORM's CARD OF 'sledgelaw30.SenderNone'. -/
def senderNoneUptoCard : Claim7 := { stood := { row := senderNoneUptoRow, standIns := [], harness := (true, "a1967b7468cff3bc06a6bc305cd957cf5cbc183eea5096d17aac1235c9287011"), looks := false }, kinds := [], alts := [], laidByText := true, laidKinds := [.data, .pinned], laidTests := true, laidLooks := .later }
def SenderNoneUptoCardSaid : Prop := Claim7.holds Tryz.pinned (.plain (OpenSpec.upto senderNoneSpec)) senderNoneUptoCard
end Rows
end Go.Proofs.YtkkleedpakcfgaaGreatDoor
