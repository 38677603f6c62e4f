/- What the row of TopHost asks of its function's reach. No condition. -/
import Derived.Test.YtenebabkanehpaaGreatDoorBase
import Derived.Test.YtenebabkanehpaaGreatDoorCards
namespace Go.Proofs.YtenebabkanehpaaGreatDoor.topHost
open Go
set_option maxRecDepth 100000
theorem recurses : Tryz.prog.recurses 5 = Rows.topHostRow.recurses := by kernel_rfl
theorem named : Tryz.prog.varsNamed 5 = Rows.topHostRow.named := by kernel_rfl
end Go.Proofs.YtenebabkanehpaaGreatDoor.topHost
