/- What the row of TopStart asks of its function's reach. No condition. -/
import Derived.Test.YtenebabkanehpaaGreatDoorBase
import Derived.Test.YtenebabkanehpaaGreatDoorCards
namespace Go.Proofs.YtenebabkanehpaaGreatDoor.topStart
open Go
set_option maxRecDepth 100000
theorem recurses : Tryz.prog.recurses 6 = Rows.topStartRow.recurses := by kernel_rfl
theorem named : Tryz.prog.varsNamed 6 = Rows.topStartRow.named := by kernel_rfl
end Go.Proofs.YtenebabkanehpaaGreatDoor.topStart
