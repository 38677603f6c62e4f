/- What the row of TopIndirect asks of its function's reach. No condition. -/
import Derived.Test.YtenebabkanehpaaGreatDoorBase
import Derived.Test.YtenebabkanehpaaGreatDoorCards
namespace Go.Proofs.YtenebabkanehpaaGreatDoor.topIndirect
open Go
set_option maxRecDepth 100000
theorem inPlace : Tryz.prog.inPlace 4 = Rows.topIndirectRow.inPlace := by kernel_rfl
theorem unfollowed : Tryz.prog.unfollowed 4 = Rows.topIndirectRow.unfollowed := by kernel_rfl
end Go.Proofs.YtenebabkanehpaaGreatDoor.topIndirect
