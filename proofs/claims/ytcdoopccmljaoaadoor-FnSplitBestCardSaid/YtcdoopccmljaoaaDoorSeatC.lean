/- Closed facts of a seat of cards. No conditions. -/
import Derived.Test.YtcdoopccmljaoaaDoorSeat
import Derived.Test.YtcdoopccmljaoaaDoorCards
import Derived.Test.YtcdoopccmljaoaaDoorTie
import Derived.WalkKit
import Derived.ProofKit
import Derived.Handy
import Derived.Lay
import Derived.SevenTiedAt
namespace Go.Proofs.YtcdoopccmljaoaaDoor
theorem mainIs : Tryd.prog.mainIs = some (Rows.fnSheetValidCard.stood.harness.1, Rows.fnSheetValidCard.stood.harness.2.toList) := by kernel_rfl
theorem noLooks : false = Tryd.prog.looks [] := by kernel_rfl
end Go.Proofs.YtcdoopccmljaoaaDoor
