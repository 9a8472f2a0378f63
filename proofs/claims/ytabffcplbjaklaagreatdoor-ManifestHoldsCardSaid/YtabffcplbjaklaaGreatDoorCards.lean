/-
  DERIVED. GIVEN WITH THE SEED: THE CARDS: each row of YtabffcplbjaklaaGreatDoorRows.lean that lists a variable, with what it lists TIED to the program's text (the seventh form; the later family's looks); each row that meets fmt, with fmt's text TOLD by the authors' own Lean function (tested against real Go, not proved from fmt's source: count such statements apart). THE CARD IS WHAT COUNTS. Prove the row's statement (the work); the ties are given (YtabffcplbjaklaaGreatDoorTie.lean); close each card by the builder's one call (the guide's Derived/Test/ToyasCard.lean, 'card_holds'). Laid BY PROGRAM, IN A SANDBOX (cutbox-door.mjs). By AI agents, Wed Nov 11 2026. No macro, syntax, notation, axiom, sorry.
-/
import Derived.Test.YtabffcplbjaklaaGreatDoorRows
import GoSem.ClaimSeven
namespace Go.Proofs.YtabffcplbjaklaaGreatDoor
namespace Rows

/-- THE TIED CARD OF 'sledgelaw46.ManifestPuts'. -/
def manifestPutsCard : Claim7 := { stood := { row := manifestPutsRow, standIns := [], harness := (true, "8c52fd6c0eb80f6da85716b4e5a9976b7ad5110189e7388d53110a3db22859e0"), looks := true }, kinds := [], alts := [], laidByText := true, laidKinds := [.data, .data, .data, .data, .sentinel, .sentinel, .pinned, .pinned], laidTests := true, laidLooks := .later }
def ManifestPutsCardSaid : Prop := Claim7.holds Tryz.pinned (.plain (OpenSpec.ofChange manifestPutsSpec)) manifestPutsCard

/-- THE TIED CARD OF 'sledgelaw46.ManifestBack'. -/
def manifestBackCard : Claim7 := { stood := { row := manifestBackRow, standIns := [], harness := (true, "8c52fd6c0eb80f6da85716b4e5a9976b7ad5110189e7388d53110a3db22859e0"), looks := true }, kinds := [], alts := [], laidByText := true, laidKinds := [.data, .data, .data, .data, .sentinel, .sentinel, .pinned, .pinned], laidTests := true, laidLooks := .later }
def ManifestBackCardSaid : Prop := Claim7.holds Tryz.pinned (.plain (OpenSpec.ofChange manifestBackSpec)) manifestBackCard

/-- THE TIED CARD OF 'sledgelaw46.ManifestHolds'. -/
def manifestHoldsCard : Claim7 := { stood := { row := manifestHoldsRow, standIns := [], harness := (true, "8c52fd6c0eb80f6da85716b4e5a9976b7ad5110189e7388d53110a3db22859e0"), looks := true }, kinds := [], alts := [], laidByText := true, laidKinds := [.data, .data, .data, .data, .sentinel, .sentinel, .pinned, .pinned], laidTests := true, laidLooks := .later }
def ManifestHoldsCardSaid : Prop := Claim7.holds Tryz.pinned (.plain (OpenSpec.ofChange manifestHoldsSpec)) manifestHoldsCard

/-- THE SECOND FORM's CARD OF 'sledgelaw46.ManifestPuts'. -/
def manifestPutsUptoCard : Claim7 := { stood := { row := manifestPutsUptoRow, standIns := [], harness := (true, "8c52fd6c0eb80f6da85716b4e5a9976b7ad5110189e7388d53110a3db22859e0"), looks := true }, kinds := [], alts := [], laidByText := true, laidKinds := [.data, .data, .data, .data, .sentinel, .sentinel, .pinned, .pinned], laidTests := true, laidLooks := .later }
def ManifestPutsUptoCardSaid : Prop := Claim7.holds Tryz.pinned (.plain (OpenSpec.upto manifestPutsSpec)) manifestPutsUptoCard

/-- THE SECOND FORM's CARD OF 'sledgelaw46.ManifestBack'. -/
def manifestBackUptoCard : Claim7 := { stood := { row := manifestBackUptoRow, standIns := [], harness := (true, "8c52fd6c0eb80f6da85716b4e5a9976b7ad5110189e7388d53110a3db22859e0"), looks := true }, kinds := [], alts := [], laidByText := true, laidKinds := [.data, .data, .data, .data, .sentinel, .sentinel, .pinned, .pinned], laidTests := true, laidLooks := .later }
def ManifestBackUptoCardSaid : Prop := Claim7.holds Tryz.pinned (.plain (OpenSpec.upto manifestBackSpec)) manifestBackUptoCard

/-- THE SECOND FORM's CARD OF 'sledgelaw46.ManifestHolds'. -/
def manifestHoldsUptoCard : Claim7 := { stood := { row := manifestHoldsUptoRow, standIns := [], harness := (true, "8c52fd6c0eb80f6da85716b4e5a9976b7ad5110189e7388d53110a3db22859e0"), looks := true }, kinds := [], alts := [], laidByText := true, laidKinds := [.data, .data, .data, .data, .sentinel, .sentinel, .pinned, .pinned], laidTests := true, laidLooks := .later }
def ManifestHoldsUptoCardSaid : Prop := Claim7.holds Tryz.pinned (.plain (OpenSpec.upto manifestHoldsSpec)) manifestHoldsUptoCard
end Rows
end Go.Proofs.YtabffcplbjaklaaGreatDoor
