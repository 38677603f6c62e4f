/- The law's own run by contracts: its ways that are not plainly true. No condition. -/
import Derived.Test.YtenebabkanehpaaGreatDoorATopFib
import Derived.KernelRfl
namespace Go.Proofs.YtenebabkanehpaaGreatDoor.LawTopFib
open Go Go.Sx Go.Gx
def lawT : Tm := ⟨[],
 [(some (-9223372036854775808), some 9223372036854775807)], [],
 [.int .i64 (.var 0)]⟩
def lawBad : List (List E × E) := []
theorem lawRan : lawRun tTopFib32 20000 200 8 lawT lawBad = true := by kernel_rfl
end Go.Proofs.YtenebabkanehpaaGreatDoor.LawTopFib
