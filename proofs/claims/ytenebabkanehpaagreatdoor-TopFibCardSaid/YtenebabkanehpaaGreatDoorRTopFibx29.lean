/- Contracts are kept. No condition. -/
import Derived.Test.YtenebabkanehpaaGreatDoorDTopFib
import Derived.KernelRfl
namespace Go.Proofs.YtenebabkanehpaaGreatDoor
open Go Go.Sx Go.Gx
theorem hTopFib29 : (cTopFib29.holds tTopFib28 20000 200 24 && true) = true := by kernel_rfl
end Go.Proofs.YtenebabkanehpaaGreatDoor
