/-
  DERIVED. GIVEN WITH THE SEED: THE CARDS: each row of YtpiiefmfiipabaaDoorRows.lean that lists a variable, with what it lists TIED to the program's text (the seventh form; the later family's looks); each row that meets fmt, with fmt's text TOLD by the authors' own Lean function (tested against real Go, not proved from fmt's source: count such statements apart). THE CARD IS WHAT COUNTS. Prove the row's statement (the work); the ties are given (YtpiiefmfiipabaaDoorTie.lean); close each card by the builder's one call (the guide's Derived/Test/ToyasCard.lean, 'card_holds'). Laid BY PROGRAM, IN A SANDBOX (cutbox-door.mjs). By AI agents, Wed Nov 11 2026. No macro, syntax, notation, axiom, sorry.
-/
import Derived.Test.YtpiiefmfiipabaaDoorRows
import GoSem.ClaimSeven
namespace Go.Proofs.YtpiiefmfiipabaaDoor
namespace Rows

/-- THE TIED CARD OF 'laws.FnPileValid'. -/
def fnPileValidCard : Claim7 := { stood := { row := fnPileValidRow, standIns := [], harness := (true, "6d717488d03e7ed390d210b2d915b25a3145683bc1ca202c7ccf12f9bc66430b"), looks := false }, kinds := [], alts := [], laidByText := true, laidKinds := [.data, .data, .data], laidTests := true, laidLooks := .later }
def FnPileValidCardSaid : Prop := Claim7.holds Tryd.pinned (.plain (OpenSpec.ofChange fnPileValidSpec)) fnPileValidCard

/-- THE TIED CARD OF 'laws.FnCoilAt'. -/
def fnCoilAtCard : Claim7 := { stood := { row := fnCoilAtRow, standIns := [], harness := (true, "6d717488d03e7ed390d210b2d915b25a3145683bc1ca202c7ccf12f9bc66430b"), looks := false }, kinds := [], alts := [], laidByText := true, laidKinds := [.data, .data, .data], laidTests := true, laidLooks := .later }
def FnCoilAtCardSaid : Prop := Claim7.holds Tryd.pinned (.plain (OpenSpec.ofChange fnCoilAtSpec)) fnCoilAtCard

/-- THE TIED CARD OF 'laws.FnLeaveOk'. -/
def fnLeaveOkCard : Claim7 := { stood := { row := fnLeaveOkRow, standIns := [], harness := (true, "6d717488d03e7ed390d210b2d915b25a3145683bc1ca202c7ccf12f9bc66430b"), looks := false }, kinds := [], alts := [], laidByText := true, laidKinds := [.data, .data, .data], laidTests := true, laidLooks := .later }
def FnLeaveOkCardSaid : Prop := Claim7.holds Tryd.pinned (.plain (OpenSpec.ofChange fnLeaveOkSpec)) fnLeaveOkCard

/-- THE TIED CARD OF 'laws.FnCoilsOn'. -/
def fnCoilsOnCard : Claim7 := { stood := { row := fnCoilsOnRow, standIns := [], harness := (true, "6d717488d03e7ed390d210b2d915b25a3145683bc1ca202c7ccf12f9bc66430b"), looks := false }, kinds := [], alts := [], laidByText := true, laidKinds := [.data, .data, .data], laidTests := true, laidLooks := .later }
def FnCoilsOnCardSaid : Prop := Claim7.holds Tryd.pinned (.plain (OpenSpec.ofChange fnCoilsOnSpec)) fnCoilsOnCard

/-- THE TIED CARD OF 'laws.FnCoilTake'. -/
def fnCoilTakeCard : Claim7 := { stood := { row := fnCoilTakeRow, standIns := [], harness := (true, "6d717488d03e7ed390d210b2d915b25a3145683bc1ca202c7ccf12f9bc66430b"), looks := false }, kinds := [], alts := [], laidByText := true, laidKinds := [.data, .data, .data], laidTests := true, laidLooks := .later }
def FnCoilTakeCardSaid : Prop := Claim7.holds Tryd.pinned (.plain (OpenSpec.ofChange fnCoilTakeSpec)) fnCoilTakeCard

/-- THE TIED CARD OF 'laws.FnCoilPut'. -/
def fnCoilPutCard : Claim7 := { stood := { row := fnCoilPutRow, standIns := [], harness := (true, "6d717488d03e7ed390d210b2d915b25a3145683bc1ca202c7ccf12f9bc66430b"), looks := false }, kinds := [], alts := [], laidByText := true, laidKinds := [.data, .data, .data], laidTests := true, laidLooks := .later }
def FnCoilPutCardSaid : Prop := Claim7.holds Tryd.pinned (.plain (OpenSpec.ofChange fnCoilPutSpec)) fnCoilPutCard

/-- THE TIED CARD OF 'laws.FnDigLifts'. -/
def fnDigLiftsCard : Claim7 := { stood := { row := fnDigLiftsRow, standIns := [], harness := (true, "6d717488d03e7ed390d210b2d915b25a3145683bc1ca202c7ccf12f9bc66430b"), looks := false }, kinds := [], alts := [], laidByText := true, laidKinds := [.data, .data, .data], laidTests := true, laidLooks := .later }
def FnDigLiftsCardSaid : Prop := Claim7.holds Tryd.pinned (.plain (OpenSpec.ofChange fnDigLiftsSpec)) fnDigLiftsCard

/-- THE TIED CARD OF 'laws.FnPileEmpty'. -/
def fnPileEmptyCard : Claim7 := { stood := { row := fnPileEmptyRow, standIns := [], harness := (true, "6d717488d03e7ed390d210b2d915b25a3145683bc1ca202c7ccf12f9bc66430b"), looks := false }, kinds := [], alts := [], laidByText := true, laidKinds := [.data, .data, .data], laidTests := true, laidLooks := .later }
def FnPileEmptyCardSaid : Prop := Claim7.holds Tryd.pinned (.plain (OpenSpec.ofChange fnPileEmptySpec)) fnPileEmptyCard

/-- THE TIED CARD OF 'laws.FnCoilLift'. -/
def fnCoilLiftCard : Claim7 := { stood := { row := fnCoilLiftRow, standIns := [], harness := (true, "6d717488d03e7ed390d210b2d915b25a3145683bc1ca202c7ccf12f9bc66430b"), looks := false }, kinds := [], alts := [], laidByText := true, laidKinds := [.data, .data, .data], laidTests := true, laidLooks := .later }
def FnCoilLiftCardSaid : Prop := Claim7.holds Tryd.pinned (.plain (OpenSpec.ofChange fnCoilLiftSpec)) fnCoilLiftCard

/-- THE TIED CARD OF 'laws.FnLiftRun'. -/
def fnLiftRunCard : Claim7 := { stood := { row := fnLiftRunRow, standIns := [], harness := (true, "6d717488d03e7ed390d210b2d915b25a3145683bc1ca202c7ccf12f9bc66430b"), looks := false }, kinds := [], alts := [], laidByText := true, laidKinds := [.data, .data, .data], laidTests := true, laidLooks := .later }
def FnLiftRunCardSaid : Prop := Claim7.holds Tryd.pinned (.plain (OpenSpec.ofChange fnLiftRunSpec)) fnLiftRunCard

/-- THE TIED CARD OF 'laws.FnLeaveLifts'. -/
def fnLeaveLiftsCard : Claim7 := { stood := { row := fnLeaveLiftsRow, standIns := [], harness := (true, "6d717488d03e7ed390d210b2d915b25a3145683bc1ca202c7ccf12f9bc66430b"), looks := false }, kinds := [], alts := [], laidByText := true, laidKinds := [.data, .data, .data], laidTests := true, laidLooks := .later }
def FnLeaveLiftsCardSaid : Prop := Claim7.holds Tryd.pinned (.plain (OpenSpec.ofChange fnLeaveLiftsSpec)) fnLeaveLiftsCard

/-- THE TIED CARD OF 'laws.FnLeaveAll'. -/
def fnLeaveAllCard : Claim7 := { stood := { row := fnLeaveAllRow, standIns := [], harness := (true, "6d717488d03e7ed390d210b2d915b25a3145683bc1ca202c7ccf12f9bc66430b"), looks := false }, kinds := [], alts := [], laidByText := true, laidKinds := [.data, .data, .data], laidTests := true, laidLooks := .later }
def FnLeaveAllCardSaid : Prop := Claim7.holds Tryd.pinned (.plain (OpenSpec.ofChange fnLeaveAllSpec)) fnLeaveAllCard

/-- THE TIED CARD OF 'laws.FnCoilIds'. -/
def fnCoilIdsCard : Claim7 := { stood := { row := fnCoilIdsRow, standIns := [], harness := (true, "6d717488d03e7ed390d210b2d915b25a3145683bc1ca202c7ccf12f9bc66430b"), looks := false }, kinds := [], alts := [], laidByText := true, laidKinds := [.data, .data, .data], laidTests := true, laidLooks := .later }
def FnCoilIdsCardSaid : Prop := Claim7.holds Tryd.pinned (.plain (OpenSpec.ofChange fnCoilIdsSpec)) fnCoilIdsCard

/-- THE TIED CARD OF 'laws.FnCoilFind'. -/
def fnCoilFindCard : Claim7 := { stood := { row := fnCoilFindRow, standIns := [], harness := (true, "6d717488d03e7ed390d210b2d915b25a3145683bc1ca202c7ccf12f9bc66430b"), looks := false }, kinds := [], alts := [], laidByText := true, laidKinds := [.data, .data, .data], laidTests := true, laidLooks := .later }
def FnCoilFindCardSaid : Prop := Claim7.holds Tryd.pinned (.plain (OpenSpec.ofChange fnCoilFindSpec)) fnCoilFindCard

/-- THE SECOND FORM's CARD OF 'laws.FnPileValid'. -/
def fnPileValidUptoCard : Claim7 := { stood := { row := fnPileValidUptoRow, standIns := [], harness := (true, "6d717488d03e7ed390d210b2d915b25a3145683bc1ca202c7ccf12f9bc66430b"), looks := false }, kinds := [], alts := [], laidByText := true, laidKinds := [.data, .data, .data], laidTests := true, laidLooks := .later }
def FnPileValidUptoCardSaid : Prop := Claim7.holds Tryd.pinned (.plain (OpenSpec.upto fnPileValidSpec)) fnPileValidUptoCard

/-- THE SECOND FORM's CARD OF 'laws.FnCoilAt'. -/
def fnCoilAtUptoCard : Claim7 := { stood := { row := fnCoilAtUptoRow, standIns := [], harness := (true, "6d717488d03e7ed390d210b2d915b25a3145683bc1ca202c7ccf12f9bc66430b"), looks := false }, kinds := [], alts := [], laidByText := true, laidKinds := [.data, .data, .data], laidTests := true, laidLooks := .later }
def FnCoilAtUptoCardSaid : Prop := Claim7.holds Tryd.pinned (.plain (OpenSpec.upto fnCoilAtSpec)) fnCoilAtUptoCard

/-- THE SECOND FORM's CARD OF 'laws.FnLeaveOk'. -/
def fnLeaveOkUptoCard : Claim7 := { stood := { row := fnLeaveOkUptoRow, standIns := [], harness := (true, "6d717488d03e7ed390d210b2d915b25a3145683bc1ca202c7ccf12f9bc66430b"), looks := false }, kinds := [], alts := [], laidByText := true, laidKinds := [.data, .data, .data], laidTests := true, laidLooks := .later }
def FnLeaveOkUptoCardSaid : Prop := Claim7.holds Tryd.pinned (.plain (OpenSpec.upto fnLeaveOkSpec)) fnLeaveOkUptoCard

/-- THE SECOND FORM's CARD OF 'laws.FnCoilsOn'. -/
def fnCoilsOnUptoCard : Claim7 := { stood := { row := fnCoilsOnUptoRow, standIns := [], harness := (true, "6d717488d03e7ed390d210b2d915b25a3145683bc1ca202c7ccf12f9bc66430b"), looks := false }, kinds := [], alts := [], laidByText := true, laidKinds := [.data, .data, .data], laidTests := true, laidLooks := .later }
def FnCoilsOnUptoCardSaid : Prop := Claim7.holds Tryd.pinned (.plain (OpenSpec.upto fnCoilsOnSpec)) fnCoilsOnUptoCard

/-- THE SECOND FORM's CARD OF 'laws.FnCoilTake'. -/
def fnCoilTakeUptoCard : Claim7 := { stood := { row := fnCoilTakeUptoRow, standIns := [], harness := (true, "6d717488d03e7ed390d210b2d915b25a3145683bc1ca202c7ccf12f9bc66430b"), looks := false }, kinds := [], alts := [], laidByText := true, laidKinds := [.data, .data, .data], laidTests := true, laidLooks := .later }
def FnCoilTakeUptoCardSaid : Prop := Claim7.holds Tryd.pinned (.plain (OpenSpec.upto fnCoilTakeSpec)) fnCoilTakeUptoCard

/-- THE SECOND FORM's CARD OF 'laws.FnCoilPut'. -/
def fnCoilPutUptoCard : Claim7 := { stood := { row := fnCoilPutUptoRow, standIns := [], harness := (true, "6d717488d03e7ed390d210b2d915b25a3145683bc1ca202c7ccf12f9bc66430b"), looks := false }, kinds := [], alts := [], laidByText := true, laidKinds := [.data, .data, .data], laidTests := true, laidLooks := .later }
def FnCoilPutUptoCardSaid : Prop := Claim7.holds Tryd.pinned (.plain (OpenSpec.upto fnCoilPutSpec)) fnCoilPutUptoCard

/-- THE SECOND FORM's CARD OF 'laws.FnDigLifts'. -/
def fnDigLiftsUptoCard : Claim7 := { stood := { row := fnDigLiftsUptoRow, standIns := [], harness := (true, "6d717488d03e7ed390d210b2d915b25a3145683bc1ca202c7ccf12f9bc66430b"), looks := false }, kinds := [], alts := [], laidByText := true, laidKinds := [.data, .data, .data], laidTests := true, laidLooks := .later }
def FnDigLiftsUptoCardSaid : Prop := Claim7.holds Tryd.pinned (.plain (OpenSpec.upto fnDigLiftsSpec)) fnDigLiftsUptoCard

/-- THE SECOND FORM's CARD OF 'laws.FnPileEmpty'. -/
def fnPileEmptyUptoCard : Claim7 := { stood := { row := fnPileEmptyUptoRow, standIns := [], harness := (true, "6d717488d03e7ed390d210b2d915b25a3145683bc1ca202c7ccf12f9bc66430b"), looks := false }, kinds := [], alts := [], laidByText := true, laidKinds := [.data, .data, .data], laidTests := true, laidLooks := .later }
def FnPileEmptyUptoCardSaid : Prop := Claim7.holds Tryd.pinned (.plain (OpenSpec.upto fnPileEmptySpec)) fnPileEmptyUptoCard

/-- THE SECOND FORM's CARD OF 'laws.FnCoilLift'. -/
def fnCoilLiftUptoCard : Claim7 := { stood := { row := fnCoilLiftUptoRow, standIns := [], harness := (true, "6d717488d03e7ed390d210b2d915b25a3145683bc1ca202c7ccf12f9bc66430b"), looks := false }, kinds := [], alts := [], laidByText := true, laidKinds := [.data, .data, .data], laidTests := true, laidLooks := .later }
def FnCoilLiftUptoCardSaid : Prop := Claim7.holds Tryd.pinned (.plain (OpenSpec.upto fnCoilLiftSpec)) fnCoilLiftUptoCard

/-- THE SECOND FORM's CARD OF 'laws.FnLiftRun'. -/
def fnLiftRunUptoCard : Claim7 := { stood := { row := fnLiftRunUptoRow, standIns := [], harness := (true, "6d717488d03e7ed390d210b2d915b25a3145683bc1ca202c7ccf12f9bc66430b"), looks := false }, kinds := [], alts := [], laidByText := true, laidKinds := [.data, .data, .data], laidTests := true, laidLooks := .later }
def FnLiftRunUptoCardSaid : Prop := Claim7.holds Tryd.pinned (.plain (OpenSpec.upto fnLiftRunSpec)) fnLiftRunUptoCard

/-- THE SECOND FORM's CARD OF 'laws.FnLeaveLifts'. -/
def fnLeaveLiftsUptoCard : Claim7 := { stood := { row := fnLeaveLiftsUptoRow, standIns := [], harness := (true, "6d717488d03e7ed390d210b2d915b25a3145683bc1ca202c7ccf12f9bc66430b"), looks := false }, kinds := [], alts := [], laidByText := true, laidKinds := [.data, .data, .data], laidTests := true, laidLooks := .later }
def FnLeaveLiftsUptoCardSaid : Prop := Claim7.holds Tryd.pinned (.plain (OpenSpec.upto fnLeaveLiftsSpec)) fnLeaveLiftsUptoCard

/-- THE SECOND FORM's CARD OF 'laws.FnLeaveAll'. -/
def fnLeaveAllUptoCard : Claim7 := { stood := { row := fnLeaveAllUptoRow, standIns := [], harness := (true, "6d717488d03e7ed390d210b2d915b25a3145683bc1ca202c7ccf12f9bc66430b"), looks := false }, kinds := [], alts := [], laidByText := true, laidKinds := [.data, .data, .data], laidTests := true, laidLooks := .later }
def FnLeaveAllUptoCardSaid : Prop := Claim7.holds Tryd.pinned (.plain (OpenSpec.upto fnLeaveAllSpec)) fnLeaveAllUptoCard

/-- THE SECOND FORM's CARD OF 'laws.FnCoilIds'. -/
def fnCoilIdsUptoCard : Claim7 := { stood := { row := fnCoilIdsUptoRow, standIns := [], harness := (true, "6d717488d03e7ed390d210b2d915b25a3145683bc1ca202c7ccf12f9bc66430b"), looks := false }, kinds := [], alts := [], laidByText := true, laidKinds := [.data, .data, .data], laidTests := true, laidLooks := .later }
def FnCoilIdsUptoCardSaid : Prop := Claim7.holds Tryd.pinned (.plain (OpenSpec.upto fnCoilIdsSpec)) fnCoilIdsUptoCard

/-- THE SECOND FORM's CARD OF 'laws.FnCoilFind'. -/
def fnCoilFindUptoCard : Claim7 := { stood := { row := fnCoilFindUptoRow, standIns := [], harness := (true, "6d717488d03e7ed390d210b2d915b25a3145683bc1ca202c7ccf12f9bc66430b"), looks := false }, kinds := [], alts := [], laidByText := true, laidKinds := [.data, .data, .data], laidTests := true, laidLooks := .later }
def FnCoilFindUptoCardSaid : Prop := Claim7.holds Tryd.pinned (.plain (OpenSpec.upto fnCoilFindSpec)) fnCoilFindUptoCard
end Rows
end Go.Proofs.YtpiiefmfiipabaaDoor
