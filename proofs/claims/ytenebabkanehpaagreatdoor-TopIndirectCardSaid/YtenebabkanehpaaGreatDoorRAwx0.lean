/- Contracts are kept. No condition. -/
import Derived.Test.YtenebabkanehpaaGreatDoorDAw
import Derived.KernelRfl
namespace Go.Proofs.YtenebabkanehpaaGreatDoor
open Go Go.Sx Go.Gx
theorem hAw0 : (cAw0.holds tb0 20000 200 22 && (cAw1.holds tAw0 20000 200 24 && (cAw2.holds tAw1 20000 200 22 && (cAw3.holds tAw2 20000 200 24 && (cAw4.holds tAw3 20000 200 10 && true))))) = true := by kernel_rfl
end Go.Proofs.YtenebabkanehpaaGreatDoor
