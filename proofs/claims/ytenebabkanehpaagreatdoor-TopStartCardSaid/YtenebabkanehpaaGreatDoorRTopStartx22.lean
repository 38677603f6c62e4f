/- Contracts are kept. No condition. -/
import Derived.Test.YtenebabkanehpaaGreatDoorDTopStart
import Derived.KernelRfl
namespace Go.Proofs.YtenebabkanehpaaGreatDoor
open Go Go.Sx Go.Gx
theorem hTopStart22 : (cTopStart22.holds tTopStart21 20000 200 160 && (cTopStart23.holds tTopStart22 20000 200 161 && (cTopStart24.holds tTopStart23 20000 200 161 && (cTopStart25.holds tTopStart24 20000 200 161 && (cTopStart26.holds tTopStart25 20000 200 161 && (cTopStart27.holds tTopStart26 20000 200 161 && true)))))) = true := by kernel_rfl
end Go.Proofs.YtenebabkanehpaaGreatDoor
