/-
  DERIVED. GIVEN WITH THE SEED: THE CARDS: each row of YthohbneadomgdaaGreatDoorRows.lean that lists a variable, with what it lists TIED to the program's text (the seventh form; the later family's looks); each row that meets fmt, with fmt's text TOLD by the authors' own Lean function (tested against real Go, not proved from fmt's source: count such statements apart). THE CARD IS WHAT COUNTS. Prove the row's statement (the work); the ties are given (YthohbneadomgdaaGreatDoorTie.lean); close each card by the builder's one call (the guide's Derived/Test/ToyasCard.lean, 'card_holds'). Laid BY PROGRAM, IN A SANDBOX (cutbox-door.mjs). By AI agents, Wed Nov 11 2026. No macro, syntax, notation, axiom, sorry.
-/
import Derived.Test.YthohbneadomgdaaGreatDoorRows
import GoSem.ClaimSeven
namespace Go.Proofs.YthohbneadomgdaaGreatDoor
namespace Rows

/-- THE TIED CARD OF 'sledgelaw25.DepotStaged'. -/
def depotStagedCard : Claim7 := { stood := { row := depotStagedRow, standIns := [], harness := (true, "374410746aa651b05fdd99cf729b9f06317f8ecfbcc335e3b316cc6df7506471"), looks := false }, kinds := [], alts := [], laidByText := true, laidKinds := [.data, .pinned], laidTests := true, laidLooks := .later }
def DepotStagedCardSaid : Prop := Claim7.holds Tryz.pinned (.plain (OpenSpec.ofChange depotStagedSpec)) depotStagedCard

/-- THE TIED CARD OF 'sledgelaw25.DepotVisible'. -/
def depotVisibleCard : Claim7 := { stood := { row := depotVisibleRow, standIns := [], harness := (true, "374410746aa651b05fdd99cf729b9f06317f8ecfbcc335e3b316cc6df7506471"), looks := false }, kinds := [], alts := [], laidByText := true, laidKinds := [.data, .pinned], laidTests := true, laidLooks := .later }
def DepotVisibleCardSaid : Prop := Claim7.holds Tryz.pinned (.plain (OpenSpec.ofChange depotVisibleSpec)) depotVisibleCard

/-- THE SECOND FORM's CARD OF 'sledgelaw25.DepotStaged'. -/
def depotStagedUptoCard : Claim7 := { stood := { row := depotStagedUptoRow, standIns := [], harness := (true, "374410746aa651b05fdd99cf729b9f06317f8ecfbcc335e3b316cc6df7506471"), looks := false }, kinds := [], alts := [], laidByText := true, laidKinds := [.data, .pinned], laidTests := true, laidLooks := .later }
def DepotStagedUptoCardSaid : Prop := Claim7.holds Tryz.pinned (.plain (OpenSpec.upto depotStagedSpec)) depotStagedUptoCard

/-- THE SECOND FORM's CARD OF 'sledgelaw25.DepotVisible'. -/
def depotVisibleUptoCard : Claim7 := { stood := { row := depotVisibleUptoRow, standIns := [], harness := (true, "374410746aa651b05fdd99cf729b9f06317f8ecfbcc335e3b316cc6df7506471"), looks := false }, kinds := [], alts := [], laidByText := true, laidKinds := [.data, .pinned], laidTests := true, laidLooks := .later }
def DepotVisibleUptoCardSaid : Prop := Claim7.holds Tryz.pinned (.plain (OpenSpec.upto depotVisibleSpec)) depotVisibleUptoCard
end Rows
end Go.Proofs.YthohbneadomgdaaGreatDoor
