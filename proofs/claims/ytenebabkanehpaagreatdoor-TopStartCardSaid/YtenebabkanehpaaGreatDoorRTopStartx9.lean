/- Contracts are kept. No condition. -/
import Derived.Test.YtenebabkanehpaaGreatDoorDTopStart
import Derived.KernelRfl
namespace Go.Proofs.YtenebabkanehpaaGreatDoor
open Go Go.Sx Go.Gx
theorem hTopStart9 : (cTopStart9.holds tCw8 20000 200 28 && true) = true := by kernel_rfl
end Go.Proofs.YtenebabkanehpaaGreatDoor
