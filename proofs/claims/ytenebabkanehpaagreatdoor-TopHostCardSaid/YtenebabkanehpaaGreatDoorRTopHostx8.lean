/- Contracts are kept. No condition. -/
import Derived.Test.YtenebabkanehpaaGreatDoorDTopHost
import Derived.KernelRfl
namespace Go.Proofs.YtenebabkanehpaaGreatDoor
open Go Go.Sx Go.Gx
theorem hTopHost8 : (cTopHost8.holds tBw7 20000 200 22 && (cTopHost9.holds tTopHost8 20000 200 24 && (cTopHost10.holds tTopHost9 20000 200 160 && (cTopHost11.holds tTopHost10 20000 200 161 && (cTopHost12.holds tTopHost11 20000 200 24 && (cTopHost13.holds tTopHost12 20000 200 24 && (cTopHost14.holds tTopHost13 20000 200 24 && true))))))) = true := by kernel_rfl
end Go.Proofs.YtenebabkanehpaaGreatDoor
