/- Contracts are kept. No condition. -/
import Derived.Test.YtenebabkanehpaaGreatDoorDTopTable
import Derived.KernelRfl
namespace Go.Proofs.YtenebabkanehpaaGreatDoor
open Go Go.Sx Go.Gx
theorem hTopTable33 : (cTopTable33.holds tTableA32 20000 200 28 && (cTopTable34.holds tTopTable33 20000 200 22 && (cTopTable35.holds tTopTable34 20000 200 24 && (cTopTable36.holds tTopTable35 20000 200 160 && (cTopTable37.holds tTopTable36 20000 200 161 && true))))) = true := by kernel_rfl
end Go.Proofs.YtenebabkanehpaaGreatDoor
