/- Contracts are kept. No condition. -/
import Derived.Test.YtenebabkanehpaaGreatDoorDTopTable
import Derived.KernelRfl
namespace Go.Proofs.YtenebabkanehpaaGreatDoor
open Go Go.Sx Go.Gx
theorem hTopTable46 : (cTopTable46.holds tTopTable45 20000 200 22 && (cTopTable47.holds tTopTable46 20000 200 24 && (cTopTable48.holds tTopTable47 20000 200 160 && (cTopTable49.holds tTopTable48 20000 200 161 && true)))) = true := by kernel_rfl
end Go.Proofs.YtenebabkanehpaaGreatDoor
