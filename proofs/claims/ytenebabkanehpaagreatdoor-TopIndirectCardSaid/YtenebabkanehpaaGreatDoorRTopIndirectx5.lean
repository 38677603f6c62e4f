/- Contracts are kept. No condition. -/
import Derived.Test.YtenebabkanehpaaGreatDoorDTopIndirect
import Derived.KernelRfl
namespace Go.Proofs.YtenebabkanehpaaGreatDoor
open Go Go.Sx Go.Gx
theorem hTopIndirect5 : (cTopIndirect5.holds tAw4 20000 200 22 && (cTopIndirect6.holds tTopIndirect5 20000 200 24 && (cTopIndirect7.holds tTopIndirect6 20000 200 22 && true))) = true := by kernel_rfl
end Go.Proofs.YtenebabkanehpaaGreatDoor
