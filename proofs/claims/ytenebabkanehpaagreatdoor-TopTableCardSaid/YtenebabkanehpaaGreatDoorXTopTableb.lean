/- What the row of TopTable asks of its function's reach. No condition. -/
import Derived.Test.YtenebabkanehpaaGreatDoorBase
import Derived.Test.YtenebabkanehpaaGreatDoorCards
namespace Go.Proofs.YtenebabkanehpaaGreatDoor.topTable
open Go
set_option maxRecDepth 100000
theorem recurses : Tryz.prog.recurses 3 = Rows.topTableRow.recurses := by kernel_rfl
theorem named : Tryz.prog.varsNamed 3 = Rows.topTableRow.named := by kernel_rfl
end Go.Proofs.YtenebabkanehpaaGreatDoor.topTable
