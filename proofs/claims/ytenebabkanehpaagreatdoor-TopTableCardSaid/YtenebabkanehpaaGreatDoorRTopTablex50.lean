/- Contracts are kept. No condition. -/
import Derived.Test.YtenebabkanehpaaGreatDoorDTopTable
import Derived.KernelRfl
namespace Go.Proofs.YtenebabkanehpaaGreatDoor
open Go Go.Sx Go.Gx
theorem hTopTable50 : (cTopTable50.holds tTopTable49 20000 200 24 && (cTopTable51.holds tTopTable50 20000 200 28 && (cTopTable52.holds tTopTable51 20000 200 22 && true))) = true := by kernel_rfl
end Go.Proofs.YtenebabkanehpaaGreatDoor
