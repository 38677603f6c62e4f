/- Contracts are kept. No condition. -/
import Derived.Test.YtenebabkanehpaaGreatDoorDTopStart
import Derived.KernelRfl
namespace Go.Proofs.YtenebabkanehpaaGreatDoor
open Go Go.Sx Go.Gx
theorem hTopStart10 : (cTopStart10.holds tTopStart9 20000 200 22 && true) = true := by kernel_rfl
end Go.Proofs.YtenebabkanehpaaGreatDoor
