/- What the row of TopStart asks of its function's reach. No condition. -/
import Derived.Test.YtenebabkanehpaaGreatDoorBase
import Derived.Test.YtenebabkanehpaaGreatDoorCards
namespace Go.Proofs.YtenebabkanehpaaGreatDoor.topStart
open Go
set_option maxRecDepth 100000
theorem inPlace : Tryz.prog.inPlace 6 = Rows.topStartRow.inPlace := by kernel_rfl
theorem unfollowed : Tryz.prog.unfollowed 6 = Rows.topStartRow.unfollowed := by kernel_rfl
end Go.Proofs.YtenebabkanehpaaGreatDoor.topStart
