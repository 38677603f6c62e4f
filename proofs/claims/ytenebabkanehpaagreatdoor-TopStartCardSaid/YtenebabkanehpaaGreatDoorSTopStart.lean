/- The law's own run by contracts: its ways that are not plainly true. No condition. -/
import Derived.Test.YtenebabkanehpaaGreatDoorATopStart
import Derived.KernelRfl
namespace Go.Proofs.YtenebabkanehpaaGreatDoor.LawTopStart
open Go Go.Sx Go.Gx
def lawT : Tm := ⟨[],
 [(some (-9223372036854775808), some 9223372036854775807), (some 0, some 1)], [],
 [.int .i64 (.var 0), .bool (.var 1)]⟩
def lawBad : List (List E × E) := []
theorem lawRan : lawRun tTopStart28 20000 200 6 lawT lawBad = true := by kernel_rfl
end Go.Proofs.YtenebabkanehpaaGreatDoor.LawTopStart
