/-
  DERIVED. GIVEN WITH THE SEED: THE CARDS: each row of YtcdoopccmljaoaaDoorRows.lean that lists a variable, with what it lists TIED to the program's text (the seventh form; the later family's looks); each row that meets fmt, with fmt's text TOLD by the authors' own Lean function (tested against real Go, not proved from fmt's source: count such statements apart). THE CARD IS WHAT COUNTS. Prove the row's statement (the work); the ties are given (YtcdoopccmljaoaaDoorTie.lean); close each card by the builder's one call (the guide's Derived/Test/ToyasCard.lean, 'card_holds'). Laid BY PROGRAM, IN A SANDBOX (cutbox-door.mjs). By AI agents, Wed Nov 11 2026. No macro, syntax, notation, axiom, sorry.
-/
import Derived.Test.YtcdoopccmljaoaaDoorRows
import GoSem.ClaimSeven
namespace Go.Proofs.YtcdoopccmljaoaaDoor
namespace Rows

/-- THE TIED CARD OF 'laws.FnSheetValid'. -/
def fnSheetValidCard : Claim7 := { stood := { row := fnSheetValidRow, standIns := [], harness := (true, "44e0f37ada356c14fd909504bc12ed9d0b86a073359f37a807ecf749a92d7409"), looks := false }, kinds := [], alts := [], laidByText := true, laidKinds := [.data, .data, .data], laidTests := true, laidLooks := .later }
def FnSheetValidCardSaid : Prop := Claim7.holds Tryd.pinned (.plain (OpenSpec.ofChange fnSheetValidSpec)) fnSheetValidCard

/-- THE TIED CARD OF 'laws.FnRollMay'. -/
def fnRollMayCard : Claim7 := { stood := { row := fnRollMayRow, standIns := [], harness := (true, "44e0f37ada356c14fd909504bc12ed9d0b86a073359f37a807ecf749a92d7409"), looks := false }, kinds := [], alts := [], laidByText := true, laidKinds := [.data, .data, .data], laidTests := true, laidLooks := .later }
def FnRollMayCardSaid : Prop := Claim7.holds Tryd.pinned (.plain (OpenSpec.ofChange fnRollMaySpec)) fnRollMayCard

/-- THE TIED CARD OF 'laws.FnJumpValid'. -/
def fnJumpValidCard : Claim7 := { stood := { row := fnJumpValidRow, standIns := [], harness := (true, "44e0f37ada356c14fd909504bc12ed9d0b86a073359f37a807ecf749a92d7409"), looks := false }, kinds := [], alts := [], laidByText := true, laidKinds := [.data, .data, .data], laidTests := true, laidLooks := .later }
def FnJumpValidCardSaid : Prop := Claim7.holds Tryd.pinned (.plain (OpenSpec.ofChange fnJumpValidSpec)) fnJumpValidCard

/-- THE TIED CARD OF 'laws.FnSpeedOut'. -/
def fnSpeedOutCard : Claim7 := { stood := { row := fnSpeedOutRow, standIns := [], harness := (true, "44e0f37ada356c14fd909504bc12ed9d0b86a073359f37a807ecf749a92d7409"), looks := false }, kinds := [], alts := [], laidByText := true, laidKinds := [.data, .data, .data], laidTests := true, laidLooks := .later }
def FnSpeedOutCardSaid : Prop := Claim7.holds Tryd.pinned (.plain (OpenSpec.ofChange fnSpeedOutSpec)) fnSpeedOutCard

/-- THE TIED CARD OF 'laws.FnRollLeast'. -/
def fnRollLeastCard : Claim7 := { stood := { row := fnRollLeastRow, standIns := [], harness := (true, "44e0f37ada356c14fd909504bc12ed9d0b86a073359f37a807ecf749a92d7409"), looks := false }, kinds := [], alts := [], laidByText := true, laidKinds := [.data, .data, .data], laidTests := true, laidLooks := .later }
def FnRollLeastCardSaid : Prop := Claim7.holds Tryd.pinned (.plain (OpenSpec.ofChange fnRollLeastSpec)) fnRollLeastCard

/-- THE TIED CARD OF 'laws.FnJumpMay'. -/
def fnJumpMayCard : Claim7 := { stood := { row := fnJumpMayRow, standIns := [], harness := (true, "44e0f37ada356c14fd909504bc12ed9d0b86a073359f37a807ecf749a92d7409"), looks := false }, kinds := [], alts := [], laidByText := true, laidKinds := [.data, .data, .data], laidTests := true, laidLooks := .later }
def FnJumpMayCardSaid : Prop := Claim7.holds Tryd.pinned (.plain (OpenSpec.ofChange fnJumpMaySpec)) fnJumpMayCard

/-- THE TIED CARD OF 'laws.FnSpeedSafe'. -/
def fnSpeedSafeCard : Claim7 := { stood := { row := fnSpeedSafeRow, standIns := [], harness := (true, "44e0f37ada356c14fd909504bc12ed9d0b86a073359f37a807ecf749a92d7409"), looks := false }, kinds := [], alts := [], laidByText := true, laidKinds := [.data, .data, .data], laidTests := true, laidLooks := .later }
def FnSpeedSafeCardSaid : Prop := Claim7.holds Tryd.pinned (.plain (OpenSpec.ofChange fnSpeedSafeSpec)) fnSpeedSafeCard

/-- THE TIED CARD OF 'laws.FnSheetsValid'. -/
def fnSheetsValidCard : Claim7 := { stood := { row := fnSheetsValidRow, standIns := [], harness := (true, "44e0f37ada356c14fd909504bc12ed9d0b86a073359f37a807ecf749a92d7409"), looks := false }, kinds := [], alts := [], laidByText := true, laidKinds := [.data, .data, .data], laidTests := true, laidLooks := .later }
def FnSheetsValidCardSaid : Prop := Claim7.holds Tryd.pinned (.plain (OpenSpec.ofChange fnSheetsValidSpec)) fnSheetsValidCard

/-- THE TIED CARD OF 'laws.FnRollsFew'. -/
def fnRollsFewCard : Claim7 := { stood := { row := fnRollsFewRow, standIns := [], harness := (true, "44e0f37ada356c14fd909504bc12ed9d0b86a073359f37a807ecf749a92d7409"), looks := false }, kinds := [], alts := [], laidByText := true, laidKinds := [.data, .data, .data], laidTests := true, laidLooks := .later }
def FnRollsFewCardSaid : Prop := Claim7.holds Tryd.pinned (.plain (OpenSpec.ofChange fnRollsFewSpec)) fnRollsFewCard

/-- THE TIED CARD OF 'laws.FnRollsFor'. -/
def fnRollsForCard : Claim7 := { stood := { row := fnRollsForRow, standIns := [], harness := (true, "44e0f37ada356c14fd909504bc12ed9d0b86a073359f37a807ecf749a92d7409"), looks := false }, kinds := [], alts := [], laidByText := true, laidKinds := [.data, .data, .data], laidTests := true, laidLooks := .later }
def FnRollsForCardSaid : Prop := Claim7.holds Tryd.pinned (.plain (OpenSpec.ofChange fnRollsForSpec)) fnRollsForCard

/-- THE TIED CARD OF 'laws.FnRollsOk'. -/
def fnRollsOkCard : Claim7 := { stood := { row := fnRollsOkRow, standIns := [], harness := (true, "44e0f37ada356c14fd909504bc12ed9d0b86a073359f37a807ecf749a92d7409"), looks := false }, kinds := [], alts := [], laidByText := true, laidKinds := [.data, .data, .data], laidTests := true, laidLooks := .later }
def FnRollsOkCardSaid : Prop := Claim7.holds Tryd.pinned (.plain (OpenSpec.ofChange fnRollsOkSpec)) fnRollsOkCard

/-- THE TIED CARD OF 'laws.FnRoundMost'. -/
def fnRoundMostCard : Claim7 := { stood := { row := fnRoundMostRow, standIns := [], harness := (true, "44e0f37ada356c14fd909504bc12ed9d0b86a073359f37a807ecf749a92d7409"), looks := false }, kinds := [], alts := [], laidByText := true, laidKinds := [.data, .data, .data], laidTests := true, laidLooks := .later }
def FnRoundMostCardSaid : Prop := Claim7.holds Tryd.pinned (.plain (OpenSpec.ofChange fnRoundMostSpec)) fnRoundMostCard

/-- THE TIED CARD OF 'laws.FnRoundBest'. -/
def fnRoundBestCard : Claim7 := { stood := { row := fnRoundBestRow, standIns := [], harness := (true, "44e0f37ada356c14fd909504bc12ed9d0b86a073359f37a807ecf749a92d7409"), looks := false }, kinds := [], alts := [], laidByText := true, laidKinds := [.data, .data, .data], laidTests := true, laidLooks := .later }
def FnRoundBestCardSaid : Prop := Claim7.holds Tryd.pinned (.plain (OpenSpec.ofChange fnRoundBestSpec)) fnRoundBestCard

/-- THE TIED CARD OF 'laws.FnRoundOk'. -/
def fnRoundOkCard : Claim7 := { stood := { row := fnRoundOkRow, standIns := [], harness := (true, "44e0f37ada356c14fd909504bc12ed9d0b86a073359f37a807ecf749a92d7409"), looks := false }, kinds := [], alts := [], laidByText := true, laidKinds := [.data, .data, .data], laidTests := true, laidLooks := .later }
def FnRoundOkCardSaid : Prop := Claim7.holds Tryd.pinned (.plain (OpenSpec.ofChange fnRoundOkSpec)) fnRoundOkCard

/-- THE TIED CARD OF 'laws.FnRoundsAll'. -/
def fnRoundsAllCard : Claim7 := { stood := { row := fnRoundsAllRow, standIns := [], harness := (true, "44e0f37ada356c14fd909504bc12ed9d0b86a073359f37a807ecf749a92d7409"), looks := false }, kinds := [], alts := [], laidByText := true, laidKinds := [.data, .data, .data], laidTests := true, laidLooks := .later }
def FnRoundsAllCardSaid : Prop := Claim7.holds Tryd.pinned (.plain (OpenSpec.ofChange fnRoundsAllSpec)) fnRoundsAllCard

/-- THE TIED CARD OF 'laws.FnSplitBest'. -/
def fnSplitBestCard : Claim7 := { stood := { row := fnSplitBestRow, standIns := [], harness := (true, "44e0f37ada356c14fd909504bc12ed9d0b86a073359f37a807ecf749a92d7409"), looks := false }, kinds := [], alts := [], laidByText := true, laidKinds := [.data, .data, .data], laidTests := true, laidLooks := .later }
def FnSplitBestCardSaid : Prop := Claim7.holds Tryd.pinned (.plain (OpenSpec.ofChange fnSplitBestSpec)) fnSplitBestCard

/-- THE SECOND FORM's CARD OF 'laws.FnSheetValid'. -/
def fnSheetValidUptoCard : Claim7 := { stood := { row := fnSheetValidUptoRow, standIns := [], harness := (true, "44e0f37ada356c14fd909504bc12ed9d0b86a073359f37a807ecf749a92d7409"), looks := false }, kinds := [], alts := [], laidByText := true, laidKinds := [.data, .data, .data], laidTests := true, laidLooks := .later }
def FnSheetValidUptoCardSaid : Prop := Claim7.holds Tryd.pinned (.plain (OpenSpec.upto fnSheetValidSpec)) fnSheetValidUptoCard

/-- THE SECOND FORM's CARD OF 'laws.FnRollMay'. -/
def fnRollMayUptoCard : Claim7 := { stood := { row := fnRollMayUptoRow, standIns := [], harness := (true, "44e0f37ada356c14fd909504bc12ed9d0b86a073359f37a807ecf749a92d7409"), looks := false }, kinds := [], alts := [], laidByText := true, laidKinds := [.data, .data, .data], laidTests := true, laidLooks := .later }
def FnRollMayUptoCardSaid : Prop := Claim7.holds Tryd.pinned (.plain (OpenSpec.upto fnRollMaySpec)) fnRollMayUptoCard

/-- THE SECOND FORM's CARD OF 'laws.FnJumpValid'. -/
def fnJumpValidUptoCard : Claim7 := { stood := { row := fnJumpValidUptoRow, standIns := [], harness := (true, "44e0f37ada356c14fd909504bc12ed9d0b86a073359f37a807ecf749a92d7409"), looks := false }, kinds := [], alts := [], laidByText := true, laidKinds := [.data, .data, .data], laidTests := true, laidLooks := .later }
def FnJumpValidUptoCardSaid : Prop := Claim7.holds Tryd.pinned (.plain (OpenSpec.upto fnJumpValidSpec)) fnJumpValidUptoCard

/-- THE SECOND FORM's CARD OF 'laws.FnSpeedOut'. -/
def fnSpeedOutUptoCard : Claim7 := { stood := { row := fnSpeedOutUptoRow, standIns := [], harness := (true, "44e0f37ada356c14fd909504bc12ed9d0b86a073359f37a807ecf749a92d7409"), looks := false }, kinds := [], alts := [], laidByText := true, laidKinds := [.data, .data, .data], laidTests := true, laidLooks := .later }
def FnSpeedOutUptoCardSaid : Prop := Claim7.holds Tryd.pinned (.plain (OpenSpec.upto fnSpeedOutSpec)) fnSpeedOutUptoCard

/-- THE SECOND FORM's CARD OF 'laws.FnRollLeast'. -/
def fnRollLeastUptoCard : Claim7 := { stood := { row := fnRollLeastUptoRow, standIns := [], harness := (true, "44e0f37ada356c14fd909504bc12ed9d0b86a073359f37a807ecf749a92d7409"), looks := false }, kinds := [], alts := [], laidByText := true, laidKinds := [.data, .data, .data], laidTests := true, laidLooks := .later }
def FnRollLeastUptoCardSaid : Prop := Claim7.holds Tryd.pinned (.plain (OpenSpec.upto fnRollLeastSpec)) fnRollLeastUptoCard

/-- THE SECOND FORM's CARD OF 'laws.FnJumpMay'. -/
def fnJumpMayUptoCard : Claim7 := { stood := { row := fnJumpMayUptoRow, standIns := [], harness := (true, "44e0f37ada356c14fd909504bc12ed9d0b86a073359f37a807ecf749a92d7409"), looks := false }, kinds := [], alts := [], laidByText := true, laidKinds := [.data, .data, .data], laidTests := true, laidLooks := .later }
def FnJumpMayUptoCardSaid : Prop := Claim7.holds Tryd.pinned (.plain (OpenSpec.upto fnJumpMaySpec)) fnJumpMayUptoCard

/-- THE SECOND FORM's CARD OF 'laws.FnSpeedSafe'. -/
def fnSpeedSafeUptoCard : Claim7 := { stood := { row := fnSpeedSafeUptoRow, standIns := [], harness := (true, "44e0f37ada356c14fd909504bc12ed9d0b86a073359f37a807ecf749a92d7409"), looks := false }, kinds := [], alts := [], laidByText := true, laidKinds := [.data, .data, .data], laidTests := true, laidLooks := .later }
def FnSpeedSafeUptoCardSaid : Prop := Claim7.holds Tryd.pinned (.plain (OpenSpec.upto fnSpeedSafeSpec)) fnSpeedSafeUptoCard

/-- THE SECOND FORM's CARD OF 'laws.FnSheetsValid'. -/
def fnSheetsValidUptoCard : Claim7 := { stood := { row := fnSheetsValidUptoRow, standIns := [], harness := (true, "44e0f37ada356c14fd909504bc12ed9d0b86a073359f37a807ecf749a92d7409"), looks := false }, kinds := [], alts := [], laidByText := true, laidKinds := [.data, .data, .data], laidTests := true, laidLooks := .later }
def FnSheetsValidUptoCardSaid : Prop := Claim7.holds Tryd.pinned (.plain (OpenSpec.upto fnSheetsValidSpec)) fnSheetsValidUptoCard

/-- THE SECOND FORM's CARD OF 'laws.FnRollsFew'. -/
def fnRollsFewUptoCard : Claim7 := { stood := { row := fnRollsFewUptoRow, standIns := [], harness := (true, "44e0f37ada356c14fd909504bc12ed9d0b86a073359f37a807ecf749a92d7409"), looks := false }, kinds := [], alts := [], laidByText := true, laidKinds := [.data, .data, .data], laidTests := true, laidLooks := .later }
def FnRollsFewUptoCardSaid : Prop := Claim7.holds Tryd.pinned (.plain (OpenSpec.upto fnRollsFewSpec)) fnRollsFewUptoCard

/-- THE SECOND FORM's CARD OF 'laws.FnRollsFor'. -/
def fnRollsForUptoCard : Claim7 := { stood := { row := fnRollsForUptoRow, standIns := [], harness := (true, "44e0f37ada356c14fd909504bc12ed9d0b86a073359f37a807ecf749a92d7409"), looks := false }, kinds := [], alts := [], laidByText := true, laidKinds := [.data, .data, .data], laidTests := true, laidLooks := .later }
def FnRollsForUptoCardSaid : Prop := Claim7.holds Tryd.pinned (.plain (OpenSpec.upto fnRollsForSpec)) fnRollsForUptoCard

/-- THE SECOND FORM's CARD OF 'laws.FnRollsOk'. -/
def fnRollsOkUptoCard : Claim7 := { stood := { row := fnRollsOkUptoRow, standIns := [], harness := (true, "44e0f37ada356c14fd909504bc12ed9d0b86a073359f37a807ecf749a92d7409"), looks := false }, kinds := [], alts := [], laidByText := true, laidKinds := [.data, .data, .data], laidTests := true, laidLooks := .later }
def FnRollsOkUptoCardSaid : Prop := Claim7.holds Tryd.pinned (.plain (OpenSpec.upto fnRollsOkSpec)) fnRollsOkUptoCard

/-- THE SECOND FORM's CARD OF 'laws.FnRoundMost'. -/
def fnRoundMostUptoCard : Claim7 := { stood := { row := fnRoundMostUptoRow, standIns := [], harness := (true, "44e0f37ada356c14fd909504bc12ed9d0b86a073359f37a807ecf749a92d7409"), looks := false }, kinds := [], alts := [], laidByText := true, laidKinds := [.data, .data, .data], laidTests := true, laidLooks := .later }
def FnRoundMostUptoCardSaid : Prop := Claim7.holds Tryd.pinned (.plain (OpenSpec.upto fnRoundMostSpec)) fnRoundMostUptoCard

/-- THE SECOND FORM's CARD OF 'laws.FnRoundBest'. -/
def fnRoundBestUptoCard : Claim7 := { stood := { row := fnRoundBestUptoRow, standIns := [], harness := (true, "44e0f37ada356c14fd909504bc12ed9d0b86a073359f37a807ecf749a92d7409"), looks := false }, kinds := [], alts := [], laidByText := true, laidKinds := [.data, .data, .data], laidTests := true, laidLooks := .later }
def FnRoundBestUptoCardSaid : Prop := Claim7.holds Tryd.pinned (.plain (OpenSpec.upto fnRoundBestSpec)) fnRoundBestUptoCard

/-- THE SECOND FORM's CARD OF 'laws.FnRoundOk'. -/
def fnRoundOkUptoCard : Claim7 := { stood := { row := fnRoundOkUptoRow, standIns := [], harness := (true, "44e0f37ada356c14fd909504bc12ed9d0b86a073359f37a807ecf749a92d7409"), looks := false }, kinds := [], alts := [], laidByText := true, laidKinds := [.data, .data, .data], laidTests := true, laidLooks := .later }
def FnRoundOkUptoCardSaid : Prop := Claim7.holds Tryd.pinned (.plain (OpenSpec.upto fnRoundOkSpec)) fnRoundOkUptoCard

/-- THE SECOND FORM's CARD OF 'laws.FnRoundsAll'. -/
def fnRoundsAllUptoCard : Claim7 := { stood := { row := fnRoundsAllUptoRow, standIns := [], harness := (true, "44e0f37ada356c14fd909504bc12ed9d0b86a073359f37a807ecf749a92d7409"), looks := false }, kinds := [], alts := [], laidByText := true, laidKinds := [.data, .data, .data], laidTests := true, laidLooks := .later }
def FnRoundsAllUptoCardSaid : Prop := Claim7.holds Tryd.pinned (.plain (OpenSpec.upto fnRoundsAllSpec)) fnRoundsAllUptoCard

/-- THE SECOND FORM's CARD OF 'laws.FnSplitBest'. -/
def fnSplitBestUptoCard : Claim7 := { stood := { row := fnSplitBestUptoRow, standIns := [], harness := (true, "44e0f37ada356c14fd909504bc12ed9d0b86a073359f37a807ecf749a92d7409"), looks := false }, kinds := [], alts := [], laidByText := true, laidKinds := [.data, .data, .data], laidTests := true, laidLooks := .later }
def FnSplitBestUptoCardSaid : Prop := Claim7.holds Tryd.pinned (.plain (OpenSpec.upto fnSplitBestSpec)) fnSplitBestUptoCard
end Rows
end Go.Proofs.YtcdoopccmljaoaaDoor
