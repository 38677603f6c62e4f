/- Contracts are kept. No condition. -/
import Derived.Test.YtenebabkanehpaaGreatDoorDTopStart
import Derived.KernelRfl
namespace Go.Proofs.YtenebabkanehpaaGreatDoor
open Go Go.Sx Go.Gx
theorem hTopStart19 : (cTopStart19.holds tTopStart18 20000 200 28 && true) = true := by kernel_rfl
end Go.Proofs.YtenebabkanehpaaGreatDoor
