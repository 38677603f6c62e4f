/- Contracts are kept. No condition. -/
import Derived.Test.YtenebabkanehpaaGreatDoorDTopStart
import Derived.KernelRfl
namespace Go.Proofs.YtenebabkanehpaaGreatDoor
open Go Go.Sx Go.Gx
theorem hTopStart28 : (cTopStart28.holds tTopStart27 20000 200 24 && true) = true := by kernel_rfl
end Go.Proofs.YtenebabkanehpaaGreatDoor
