/- Contracts are kept. No condition. -/
import Derived.Test.YtenebabkanehpaaGreatDoorDTopTable
import Derived.KernelRfl
namespace Go.Proofs.YtenebabkanehpaaGreatDoor
open Go Go.Sx Go.Gx
theorem hTopTable42 : (cTopTable42.holds tTopTable41 20000 200 160 && (cTopTable43.holds tTopTable42 20000 200 161 && (cTopTable44.holds tTopTable43 20000 200 24 && (cTopTable45.holds tTopTable44 20000 200 28 && true)))) = true := by kernel_rfl
end Go.Proofs.YtenebabkanehpaaGreatDoor
