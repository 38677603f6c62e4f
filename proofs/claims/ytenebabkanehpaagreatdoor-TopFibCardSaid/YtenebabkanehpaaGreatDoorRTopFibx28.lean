/- Contracts are kept. No condition. -/
import Derived.Test.YtenebabkanehpaaGreatDoorDTopFib
import Derived.KernelRfl
namespace Go.Proofs.YtenebabkanehpaaGreatDoor
open Go Go.Sx Go.Gx
theorem hTopFib28 : (cTopFib28.holds tTopFib27 20000 200 24 && true) = true := by kernel_rfl
end Go.Proofs.YtenebabkanehpaaGreatDoor
