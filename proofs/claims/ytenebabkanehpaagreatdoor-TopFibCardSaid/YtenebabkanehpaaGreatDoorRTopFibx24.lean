/- Contracts are kept. No condition. -/
import Derived.Test.YtenebabkanehpaaGreatDoorDTopFib
import Derived.KernelRfl
namespace Go.Proofs.YtenebabkanehpaaGreatDoor
open Go Go.Sx Go.Gx
theorem hTopFib24 : (cTopFib24.holds tTopFib23 20000 200 24 && (cTopFib25.holds tTopFib24 20000 200 24 && (cTopFib26.holds tTopFib25 20000 200 24 && true))) = true := by kernel_rfl
end Go.Proofs.YtenebabkanehpaaGreatDoor
