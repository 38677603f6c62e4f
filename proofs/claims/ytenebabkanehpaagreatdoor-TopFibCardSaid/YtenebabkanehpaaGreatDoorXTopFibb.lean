/- What the row of TopFib asks of its function's reach. No condition. -/
import Derived.Test.YtenebabkanehpaaGreatDoorBase
import Derived.Test.YtenebabkanehpaaGreatDoorCards
namespace Go.Proofs.YtenebabkanehpaaGreatDoor.topFib
open Go
set_option maxRecDepth 100000
theorem recurses : Tryz.prog.recurses 8 = Rows.topFibRow.recurses := by kernel_rfl
theorem named : Tryz.prog.varsNamed 8 = Rows.topFibRow.named := by kernel_rfl
end Go.Proofs.YtenebabkanehpaaGreatDoor.topFib
