/- What the card of TopTable asks of its function's reach. No condition. -/
import Derived.Test.YtenebabkanehpaaGreatDoorBase
import Derived.Test.YtenebabkanehpaaGreatDoorCards
namespace Go.Proofs.YtenebabkanehpaaGreatDoor.topTable
open Go
set_option maxRecDepth 100000
theorem goesBy : false = Rows.topTableRow.goesBy Tryz.prog := by kernel_rfl
end Go.Proofs.YtenebabkanehpaaGreatDoor.topTable
