/- Contracts are kept. No condition. -/
import Derived.Test.YtenebabkanehpaaGreatDoorDBw
import Derived.KernelRfl
namespace Go.Proofs.YtenebabkanehpaaGreatDoor
open Go Go.Sx Go.Gx
theorem hBw0 : (cBw0.holds tb0 20000 200 22 && (cBw1.holds tBw0 20000 200 276 && (cBw2.holds tBw1 20000 200 282 && (cBw3.holds tBw2 20000 200 24 && (cBw4.holds tBw3 20000 200 160 && (cBw5.holds tBw4 20000 200 161 && (cBw6.holds tBw5 20000 200 24 && (cBw7.holds tBw6 20000 200 10 && true)))))))) = true := by kernel_rfl
end Go.Proofs.YtenebabkanehpaaGreatDoor
