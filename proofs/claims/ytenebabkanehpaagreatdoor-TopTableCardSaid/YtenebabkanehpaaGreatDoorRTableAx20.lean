/- Contracts are kept. No condition. -/
import Derived.Test.YtenebabkanehpaaGreatDoorDTableA
import Derived.KernelRfl
namespace Go.Proofs.YtenebabkanehpaaGreatDoor
open Go Go.Sx Go.Gx
theorem hTableA20 : (cTableA20.holds tTableA19 20000 200 24 && (cTableA21.holds tTableA20 20000 200 28 && (cTableA22.holds tTableA21 20000 200 22 && (cTableA23.holds tTableA22 20000 200 24 && (cTableA24.holds tTableA23 20000 200 160 && (cTableA25.holds tTableA24 20000 200 161 && (cTableA26.holds tTableA25 20000 200 24 && true))))))) = true := by kernel_rfl
end Go.Proofs.YtenebabkanehpaaGreatDoor
