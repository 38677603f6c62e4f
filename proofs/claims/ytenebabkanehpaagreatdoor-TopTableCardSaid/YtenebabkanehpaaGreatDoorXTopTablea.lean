/- What the row of TopTable asks of its function's reach. No condition. -/
import Derived.Test.YtenebabkanehpaaGreatDoorBase
import Derived.Test.YtenebabkanehpaaGreatDoorCards
namespace Go.Proofs.YtenebabkanehpaaGreatDoor.topTable
open Go
set_option maxRecDepth 100000
theorem inPlace : Tryz.prog.inPlace 3 = Rows.topTableRow.inPlace := by kernel_rfl
theorem unfollowed : Tryz.prog.unfollowed 3 = Rows.topTableRow.unfollowed := by kernel_rfl
end Go.Proofs.YtenebabkanehpaaGreatDoor.topTable
