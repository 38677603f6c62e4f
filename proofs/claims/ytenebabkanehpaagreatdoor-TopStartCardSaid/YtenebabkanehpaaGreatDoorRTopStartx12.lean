/- Contracts are kept. No condition. -/
import Derived.Test.YtenebabkanehpaaGreatDoorDTopStart
import Derived.KernelRfl
namespace Go.Proofs.YtenebabkanehpaaGreatDoor
open Go Go.Sx Go.Gx
theorem hTopStart12 : (cTopStart12.holds tTopStart11 20000 200 160 && (cTopStart13.holds tTopStart12 20000 200 161 && (cTopStart14.holds tTopStart13 20000 200 161 && (cTopStart15.holds tTopStart14 20000 200 161 && (cTopStart16.holds tTopStart15 20000 200 161 && (cTopStart17.holds tTopStart16 20000 200 161 && true)))))) = true := by kernel_rfl
end Go.Proofs.YtenebabkanehpaaGreatDoor
