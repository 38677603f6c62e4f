/- Contracts are kept. No condition. -/
import Derived.Test.YtenebabkanehpaaGreatDoorDTopTable
import Derived.KernelRfl
namespace Go.Proofs.YtenebabkanehpaaGreatDoor
open Go Go.Sx Go.Gx
theorem hTopTable53 : (cTopTable53.holds tTopTable52 20000 200 24 && (cTopTable54.holds tTopTable53 20000 200 160 && (cTopTable55.holds tTopTable54 20000 200 161 && (cTopTable56.holds tTopTable55 20000 200 24 && true)))) = true := by kernel_rfl
end Go.Proofs.YtenebabkanehpaaGreatDoor
