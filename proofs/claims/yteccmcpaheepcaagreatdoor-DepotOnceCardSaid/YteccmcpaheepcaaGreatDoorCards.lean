/-
  DERIVED. GIVEN WITH THE SEED: THE CARDS: each row of YteccmcpaheepcaaGreatDoorRows.lean that lists a variable, with what it lists TIED to the program's text (the seventh form; the later family's looks); each row that meets fmt, with fmt's text TOLD by the authors' own Lean function (tested against real Go, not proved from fmt's source: count such statements apart). THE CARD IS WHAT COUNTS. Prove the row's statement (the work); the ties are given (YteccmcpaheepcaaGreatDoorTie.lean); close each card by the builder's one call (the guide's Derived/Test/ToyasCard.lean, 'card_holds'). Laid BY PROGRAM, IN A SANDBOX (cutbox-door.mjs). By AI agents, Wed Nov 11 2026. No macro, syntax, notation, axiom, sorry.
-/
import Derived.Test.YteccmcpaheepcaaGreatDoorRows
import GoSem.ClaimSeven
namespace Go.Proofs.YteccmcpaheepcaaGreatDoor
namespace Rows

/-- THE TIED CARD OF 'sledgelaw42.TidySmall'. -/
def tidySmallCard : Claim7 := { stood := { row := tidySmallRow, standIns := [], harness := (true, "cf442c823c0ac0d193a5969a2c4422e4515af9384b9260397acf8ab0e1502f40"), looks := true }, kinds := [], alts := [], laidByText := true, laidKinds := [.data, .pinned], laidTests := true, laidLooks := .later }
def TidySmallCardSaid : Prop := Claim7.holds Tryz.pinned (.plain (OpenSpec.ofChange tidySmallSpec)) tidySmallCard

/-- THE TIED CARD OF 'sledgelaw25.DepotForged'. -/
def depotForgedCard : Claim7 := { stood := { row := depotForgedRow, standIns := [], harness := (true, "cf442c823c0ac0d193a5969a2c4422e4515af9384b9260397acf8ab0e1502f40"), looks := true }, kinds := [], alts := [], laidByText := true, laidKinds := [.data, .pinned], laidTests := true, laidLooks := .later }
def DepotForgedCardSaid : Prop := Claim7.holds Tryz.pinned (.plain (OpenSpec.ofChange depotForgedSpec)) depotForgedCard

/-- THE TIED CARD OF 'sledgelaw25.DepotSmall'. -/
def depotSmallCard : Claim7 := { stood := { row := depotSmallRow, standIns := [], harness := (true, "cf442c823c0ac0d193a5969a2c4422e4515af9384b9260397acf8ab0e1502f40"), looks := true }, kinds := [], alts := [], laidByText := true, laidKinds := [.data, .pinned], laidTests := true, laidLooks := .later }
def DepotSmallCardSaid : Prop := Claim7.holds Tryz.pinned (.plain (OpenSpec.ofChange depotSmallSpec)) depotSmallCard

/-- THE TIED CARD OF 'sledgelaw25.DepotOnce'. -/
def depotOnceCard : Claim7 := { stood := { row := depotOnceRow, standIns := [], harness := (true, "cf442c823c0ac0d193a5969a2c4422e4515af9384b9260397acf8ab0e1502f40"), looks := true }, kinds := [], alts := [], laidByText := true, laidKinds := [.data, .pinned], laidTests := true, laidLooks := .later }
def DepotOnceCardSaid : Prop := Claim7.holds Tryz.pinned (.plain (OpenSpec.ofChange depotOnceSpec)) depotOnceCard

/-- THE TIED CARD OF 'sledgelaw25.DepotStaged'. -/
def depotStagedCard : Claim7 := { stood := { row := depotStagedRow, standIns := [], harness := (true, "cf442c823c0ac0d193a5969a2c4422e4515af9384b9260397acf8ab0e1502f40"), looks := true }, kinds := [], alts := [], laidByText := true, laidKinds := [.data, .pinned], laidTests := true, laidLooks := .later }
def DepotStagedCardSaid : Prop := Claim7.holds Tryz.pinned (.plain (OpenSpec.ofChange depotStagedSpec)) depotStagedCard

/-- THE TIED CARD OF 'sledgelaw25.DepotVisible'. -/
def depotVisibleCard : Claim7 := { stood := { row := depotVisibleRow, standIns := [], harness := (true, "cf442c823c0ac0d193a5969a2c4422e4515af9384b9260397acf8ab0e1502f40"), looks := true }, kinds := [], alts := [], laidByText := true, laidKinds := [.data, .pinned], laidTests := true, laidLooks := .later }
def DepotVisibleCardSaid : Prop := Claim7.holds Tryz.pinned (.plain (OpenSpec.ofChange depotVisibleSpec)) depotVisibleCard

/-- THE TIED CARD OF 'sledgelaw25.DepotAgain'. -/
def depotAgainCard : Claim7 := { stood := { row := depotAgainRow, standIns := [], harness := (true, "cf442c823c0ac0d193a5969a2c4422e4515af9384b9260397acf8ab0e1502f40"), looks := true }, kinds := [], alts := [], laidByText := true, laidKinds := [.data, .pinned], laidTests := true, laidLooks := .later }
def DepotAgainCardSaid : Prop := Claim7.holds Tryz.pinned (.plain (OpenSpec.ofChange depotAgainSpec)) depotAgainCard

/-- THE TIED CARD OF 'sledgelaw25.DepotPlays'. -/
def depotPlaysCard : Claim7 := { stood := { row := depotPlaysRow, standIns := [], harness := (true, "cf442c823c0ac0d193a5969a2c4422e4515af9384b9260397acf8ab0e1502f40"), looks := true }, kinds := [], alts := [], laidByText := true, laidKinds := [.data, .pinned], laidTests := true, laidLooks := .later }
def DepotPlaysCardSaid : Prop := Claim7.holds Tryz.pinned (.plain (OpenSpec.ofChange depotPlaysSpec)) depotPlaysCard

/-- THE SECOND FORM's CARD OF 'sledgelaw42.TidySmall'. -/
def tidySmallUptoCard : Claim7 := { stood := { row := tidySmallUptoRow, standIns := [], harness := (true, "cf442c823c0ac0d193a5969a2c4422e4515af9384b9260397acf8ab0e1502f40"), looks := true }, kinds := [], alts := [], laidByText := true, laidKinds := [.data, .pinned], laidTests := true, laidLooks := .later }
def TidySmallUptoCardSaid : Prop := Claim7.holds Tryz.pinned (.plain (OpenSpec.upto tidySmallSpec)) tidySmallUptoCard

/-- THE SECOND FORM's CARD OF 'sledgelaw25.DepotForged'. -/
def depotForgedUptoCard : Claim7 := { stood := { row := depotForgedUptoRow, standIns := [], harness := (true, "cf442c823c0ac0d193a5969a2c4422e4515af9384b9260397acf8ab0e1502f40"), looks := true }, kinds := [], alts := [], laidByText := true, laidKinds := [.data, .pinned], laidTests := true, laidLooks := .later }
def DepotForgedUptoCardSaid : Prop := Claim7.holds Tryz.pinned (.plain (OpenSpec.upto depotForgedSpec)) depotForgedUptoCard

/-- THE SECOND FORM's CARD OF 'sledgelaw25.DepotSmall'. -/
def depotSmallUptoCard : Claim7 := { stood := { row := depotSmallUptoRow, standIns := [], harness := (true, "cf442c823c0ac0d193a5969a2c4422e4515af9384b9260397acf8ab0e1502f40"), looks := true }, kinds := [], alts := [], laidByText := true, laidKinds := [.data, .pinned], laidTests := true, laidLooks := .later }
def DepotSmallUptoCardSaid : Prop := Claim7.holds Tryz.pinned (.plain (OpenSpec.upto depotSmallSpec)) depotSmallUptoCard

/-- THE SECOND FORM's CARD OF 'sledgelaw25.DepotOnce'. -/
def depotOnceUptoCard : Claim7 := { stood := { row := depotOnceUptoRow, standIns := [], harness := (true, "cf442c823c0ac0d193a5969a2c4422e4515af9384b9260397acf8ab0e1502f40"), looks := true }, kinds := [], alts := [], laidByText := true, laidKinds := [.data, .pinned], laidTests := true, laidLooks := .later }
def DepotOnceUptoCardSaid : Prop := Claim7.holds Tryz.pinned (.plain (OpenSpec.upto depotOnceSpec)) depotOnceUptoCard

/-- THE SECOND FORM's CARD OF 'sledgelaw25.DepotStaged'. -/
def depotStagedUptoCard : Claim7 := { stood := { row := depotStagedUptoRow, standIns := [], harness := (true, "cf442c823c0ac0d193a5969a2c4422e4515af9384b9260397acf8ab0e1502f40"), looks := true }, kinds := [], alts := [], laidByText := true, laidKinds := [.data, .pinned], laidTests := true, laidLooks := .later }
def DepotStagedUptoCardSaid : Prop := Claim7.holds Tryz.pinned (.plain (OpenSpec.upto depotStagedSpec)) depotStagedUptoCard

/-- THE SECOND FORM's CARD OF 'sledgelaw25.DepotVisible'. -/
def depotVisibleUptoCard : Claim7 := { stood := { row := depotVisibleUptoRow, standIns := [], harness := (true, "cf442c823c0ac0d193a5969a2c4422e4515af9384b9260397acf8ab0e1502f40"), looks := true }, kinds := [], alts := [], laidByText := true, laidKinds := [.data, .pinned], laidTests := true, laidLooks := .later }
def DepotVisibleUptoCardSaid : Prop := Claim7.holds Tryz.pinned (.plain (OpenSpec.upto depotVisibleSpec)) depotVisibleUptoCard

/-- THE SECOND FORM's CARD OF 'sledgelaw25.DepotAgain'. -/
def depotAgainUptoCard : Claim7 := { stood := { row := depotAgainUptoRow, standIns := [], harness := (true, "cf442c823c0ac0d193a5969a2c4422e4515af9384b9260397acf8ab0e1502f40"), looks := true }, kinds := [], alts := [], laidByText := true, laidKinds := [.data, .pinned], laidTests := true, laidLooks := .later }
def DepotAgainUptoCardSaid : Prop := Claim7.holds Tryz.pinned (.plain (OpenSpec.upto depotAgainSpec)) depotAgainUptoCard

/-- THE SECOND FORM's CARD OF 'sledgelaw25.DepotPlays'. -/
def depotPlaysUptoCard : Claim7 := { stood := { row := depotPlaysUptoRow, standIns := [], harness := (true, "cf442c823c0ac0d193a5969a2c4422e4515af9384b9260397acf8ab0e1502f40"), looks := true }, kinds := [], alts := [], laidByText := true, laidKinds := [.data, .pinned], laidTests := true, laidLooks := .later }
def DepotPlaysUptoCardSaid : Prop := Claim7.holds Tryz.pinned (.plain (OpenSpec.upto depotPlaysSpec)) depotPlaysUptoCard
end Rows
end Go.Proofs.YteccmcpaheepcaaGreatDoor
