/- Contracts are kept. No condition. -/
import Derived.Test.YtenebabkanehpaaGreatDoorDTableA
import Derived.KernelRfl
namespace Go.Proofs.YtenebabkanehpaaGreatDoor
open Go Go.Sx Go.Gx
theorem hTableA9 : (cTableA9.holds tCw8 20000 200 28 && (cTableA10.holds tTableA9 20000 200 22 && (cTableA11.holds tTableA10 20000 200 24 && (cTableA12.holds tTableA11 20000 200 160 && (cTableA13.holds tTableA12 20000 200 161 && (cTableA14.holds tTableA13 20000 200 24 && (cTableA15.holds tTableA14 20000 200 28 && (cTableA16.holds tTableA15 20000 200 22 && (cTableA17.holds tTableA16 20000 200 24 && (cTableA18.holds tTableA17 20000 200 160 && (cTableA19.holds tTableA18 20000 200 161 && true))))))))))) = true := by kernel_rfl
end Go.Proofs.YtenebabkanehpaaGreatDoor
