/- Contracts are kept. No condition. -/
import Derived.Test.YtenebabkanehpaaGreatDoorDTopTable
import Derived.KernelRfl
namespace Go.Proofs.YtenebabkanehpaaGreatDoor
open Go Go.Sx Go.Gx
theorem hTopTable38 : (cTopTable38.holds tTopTable37 20000 200 24 && (cTopTable39.holds tTopTable38 20000 200 28 && (cTopTable40.holds tTopTable39 20000 200 22 && (cTopTable41.holds tTopTable40 20000 200 24 && true)))) = true := by kernel_rfl
end Go.Proofs.YtenebabkanehpaaGreatDoor
