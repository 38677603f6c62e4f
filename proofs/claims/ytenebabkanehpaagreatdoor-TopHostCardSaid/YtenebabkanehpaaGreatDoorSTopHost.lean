/- The law's own run by contracts: its ways that are not plainly true. No condition. -/
import Derived.Test.YtenebabkanehpaaGreatDoorATopHost
import Derived.KernelRfl
namespace Go.Proofs.YtenebabkanehpaaGreatDoor.LawTopHost
open Go Go.Sx Go.Gx
def lawT : Tm := ⟨[],
 [(some (-9223372036854775808), some 9223372036854775807), (some (-9223372036854775808), some 9223372036854775807), (some (-9223372036854775808), some 9223372036854775807), (some 0, some 1)], [],
 [.int .i64 (.var 0), .agg [.int .i64 (.var 1), .int .i64 (.var 2)], .bool (.var 3)]⟩
def lawBad : List (List E × E) := []
theorem lawRan : lawRun tTopHost14 20000 200 5 lawT lawBad = true := by kernel_rfl
end Go.Proofs.YtenebabkanehpaaGreatDoor.LawTopHost
