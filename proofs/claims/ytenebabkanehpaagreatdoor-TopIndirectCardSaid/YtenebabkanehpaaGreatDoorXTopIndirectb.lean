/- What the row of TopIndirect asks of its function's reach. No condition. -/
import Derived.Test.YtenebabkanehpaaGreatDoorBase
import Derived.Test.YtenebabkanehpaaGreatDoorCards
namespace Go.Proofs.YtenebabkanehpaaGreatDoor.topIndirect
open Go
set_option maxRecDepth 100000
theorem recurses : Tryz.prog.recurses 4 = Rows.topIndirectRow.recurses := by kernel_rfl
theorem named : Tryz.prog.varsNamed 4 = Rows.topIndirectRow.named := by kernel_rfl
end Go.Proofs.YtenebabkanehpaaGreatDoor.topIndirect
