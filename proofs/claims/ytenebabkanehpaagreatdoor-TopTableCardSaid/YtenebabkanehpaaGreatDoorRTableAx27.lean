/- Contracts are kept. No condition. -/
import Derived.Test.YtenebabkanehpaaGreatDoorDTableA
import Derived.KernelRfl
namespace Go.Proofs.YtenebabkanehpaaGreatDoor
open Go Go.Sx Go.Gx
theorem hTableA27 : (cTableA27.holds tTableA26 20000 200 28 && (cTableA28.holds tTableA27 20000 200 22 && (cTableA29.holds tTableA28 20000 200 24 && (cTableA30.holds tTableA29 20000 200 160 && (cTableA31.holds tTableA30 20000 200 161 && (cTableA32.holds tTableA31 20000 200 24 && true)))))) = true := by kernel_rfl
end Go.Proofs.YtenebabkanehpaaGreatDoor
