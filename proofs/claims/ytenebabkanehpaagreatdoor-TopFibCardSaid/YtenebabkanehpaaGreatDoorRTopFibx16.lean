/- Contracts are kept. No condition. -/
import Derived.Test.YtenebabkanehpaaGreatDoorDTopFib
import Derived.KernelRfl
namespace Go.Proofs.YtenebabkanehpaaGreatDoor
open Go Go.Sx Go.Gx
theorem hTopFib16 : (cTopFib16.holds tTopFib15 20000 200 161 && (cTopFib17.holds tTopFib16 20000 200 24 && (cTopFib18.holds tTopFib17 20000 200 24 && (cTopFib19.holds tTopFib18 20000 200 24 && (cTopFib20.holds tTopFib19 20000 200 282 && (cTopFib21.holds tTopFib20 20000 200 24 && (cTopFib22.holds tTopFib21 20000 200 24 && (cTopFib23.holds tTopFib22 20000 200 24 && true)))))))) = true := by kernel_rfl
end Go.Proofs.YtenebabkanehpaaGreatDoor
