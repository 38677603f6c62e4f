/- What the card of TopStart asks of its function's reach. No condition. -/
import Derived.Test.YtenebabkanehpaaGreatDoorBase
import Derived.Test.YtenebabkanehpaaGreatDoorCards
namespace Go.Proofs.YtenebabkanehpaaGreatDoor.topStart
open Go
set_option maxRecDepth 100000
theorem goesBy : false = Rows.topStartRow.goesBy Tryz.prog := by kernel_rfl
end Go.Proofs.YtenebabkanehpaaGreatDoor.topStart
