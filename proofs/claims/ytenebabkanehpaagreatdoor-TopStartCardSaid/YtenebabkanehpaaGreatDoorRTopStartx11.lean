/- Contracts are kept. No condition. -/
import Derived.Test.YtenebabkanehpaaGreatDoorDTopStart
import Derived.KernelRfl
namespace Go.Proofs.YtenebabkanehpaaGreatDoor
open Go Go.Sx Go.Gx
theorem hTopStart11 : (cTopStart11.holds tTopStart10 20000 200 24 && true) = true := by kernel_rfl
end Go.Proofs.YtenebabkanehpaaGreatDoor
