/- Contracts are kept. No condition. -/
import Derived.Test.YtenebabkanehpaaGreatDoorDCw
import Derived.KernelRfl
namespace Go.Proofs.YtenebabkanehpaaGreatDoor
open Go Go.Sx Go.Gx
theorem hCw0 : (cCw0.holds tb0 20000 200 28 && (cCw1.holds tCw0 20000 200 22 && (cCw2.holds tCw1 20000 200 276 && (cCw3.holds tCw2 20000 200 282 && (cCw4.holds tCw3 20000 200 24 && (cCw5.holds tCw4 20000 200 160 && (cCw6.holds tCw5 20000 200 161 && (cCw7.holds tCw6 20000 200 24 && (cCw8.holds tCw7 20000 200 10 && true))))))))) = true := by kernel_rfl
end Go.Proofs.YtenebabkanehpaaGreatDoor
