/- Contracts are kept. No condition. -/
import Derived.Test.YtenebabkanehpaaGreatDoorDTopFib
import Derived.KernelRfl
namespace Go.Proofs.YtenebabkanehpaaGreatDoor
open Go Go.Sx Go.Gx
theorem hTopFib9 : (cTopFib9.holds tCw8 20000 200 28 && (cTopFib10.holds tTopFib9 20000 200 22 && (cTopFib11.holds tTopFib10 20000 200 276 && (cTopFib12.holds tTopFib11 20000 200 282 && (cTopFib13.holds tTopFib12 20000 200 24 && (cTopFib14.holds tTopFib13 20000 200 276 && (cTopFib15.holds tTopFib14 20000 200 160 && true))))))) = true := by kernel_rfl
end Go.Proofs.YtenebabkanehpaaGreatDoor
