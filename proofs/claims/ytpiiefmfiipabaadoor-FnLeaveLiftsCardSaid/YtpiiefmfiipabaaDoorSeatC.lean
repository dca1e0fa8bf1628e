/- Closed facts of a seat of cards. No conditions. -/
import Derived.Test.YtpiiefmfiipabaaDoorSeat
import Derived.Test.YtpiiefmfiipabaaDoorCards
import Derived.Test.YtpiiefmfiipabaaDoorTie
import Derived.WalkKit
import Derived.ProofKit
import Derived.Handy
import Derived.Lay
import Derived.SevenTiedAt
namespace Go.Proofs.YtpiiefmfiipabaaDoor
theorem mainIs : Tryd.prog.mainIs = some (Rows.fnPileValidCard.stood.harness.1, Rows.fnPileValidCard.stood.harness.2.toList) := by kernel_rfl
theorem noLooks : false = Tryd.prog.looks [] := by kernel_rfl
end Go.Proofs.YtpiiefmfiipabaaDoor
