/- Contracts are kept. No condition. -/
import Derived.Test.YtenebabkanehpaaGreatDoorDTopFib
import Derived.KernelRfl
namespace Go.Proofs.YtenebabkanehpaaGreatDoor
open Go Go.Sx Go.Gx
theorem hTopFib30 : (cTopFib30.holds tTopFib29 20000 200 24 && true) = true := by kernel_rfl
end Go.Proofs.YtenebabkanehpaaGreatDoor
