/- What the row of TopFib asks of its function's reach. No condition. -/
import Derived.Test.YtenebabkanehpaaGreatDoorBase
import Derived.Test.YtenebabkanehpaaGreatDoorCards
namespace Go.Proofs.YtenebabkanehpaaGreatDoor.topFib
open Go
set_option maxRecDepth 100000
theorem inPlace : Tryz.prog.inPlace 8 = Rows.topFibRow.inPlace := by kernel_rfl
theorem unfollowed : Tryz.prog.unfollowed 8 = Rows.topFibRow.unfollowed := by kernel_rfl
end Go.Proofs.YtenebabkanehpaaGreatDoor.topFib
