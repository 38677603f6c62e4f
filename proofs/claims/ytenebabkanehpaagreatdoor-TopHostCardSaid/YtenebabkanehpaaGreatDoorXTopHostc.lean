/- What the card of TopHost asks of its function's reach. No condition. -/
import Derived.Test.YtenebabkanehpaaGreatDoorBase
import Derived.Test.YtenebabkanehpaaGreatDoorCards
namespace Go.Proofs.YtenebabkanehpaaGreatDoor.topHost
open Go
set_option maxRecDepth 100000
theorem goesBy : false = Rows.topHostRow.goesBy Tryz.prog := by kernel_rfl
end Go.Proofs.YtenebabkanehpaaGreatDoor.topHost
