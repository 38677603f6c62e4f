/- What the row of TopHost asks of its function's reach. No condition. -/
import Derived.Test.YtenebabkanehpaaGreatDoorBase
import Derived.Test.YtenebabkanehpaaGreatDoorCards
namespace Go.Proofs.YtenebabkanehpaaGreatDoor.topHost
open Go
set_option maxRecDepth 100000
theorem inPlace : Tryz.prog.inPlace 5 = Rows.topHostRow.inPlace := by kernel_rfl
theorem unfollowed : Tryz.prog.unfollowed 5 = Rows.topHostRow.unfollowed := by kernel_rfl
end Go.Proofs.YtenebabkanehpaaGreatDoor.topHost
