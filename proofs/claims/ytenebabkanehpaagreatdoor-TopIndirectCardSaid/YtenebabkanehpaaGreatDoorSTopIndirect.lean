/- The law's own run by contracts: its ways that are not plainly true. No condition. -/
import Derived.Test.YtenebabkanehpaaGreatDoorATopIndirect
import Derived.KernelRfl
namespace Go.Proofs.YtenebabkanehpaaGreatDoor.LawTopIndirect
open Go Go.Sx Go.Gx
def q0 : E := (l 0)
def q1 : E := (.bin .eq (.bin .emod (.var 0) (l 4)) (l 0))
def q2 : E := (.bin .le (l 4) (.un (.wrap .u32) (.bin .emod (.var 0) (l 4))))
def q3 : E := (.bin .eq (.bin .emod (.var 1) (l 2)) (l 1))
def q4 : E := (.un .bnot (.bin .eq (.bin .emod (.var 0) (l 4)) (l 0)))
def q5 : E := (.bin .eq (.un (.wrap .u32) (.bin .emod (.var 0) (l 4))) (l 0))
def q6 : E := (.bin .lt (.un (.wrap .u32) (.bin .emod (.var 0) (l 4))) (l 4))
def q7 : E := (.bin .eq (.un (.wrap .u32) (.bin .emod (.var 0) (l 4))) (l 1))
def q8 : E := (.bin .eq (.un (.wrap .u32) (.bin .emod (.var 0) (l 4))) (l 2))
def lawT : Tm := ⟨[],
 [(some (-9223372036854775808), some 9223372036854775807), (some (-9223372036854775808), some 9223372036854775807)], [],
 [.int .i64 (.var 0), .int .i64 (.var 1)]⟩
def lawBad : List (List E × E) := [([q1, q2, q3], q0),
  ([q4, q5, q6, q3], q0),
  ([q1, q7, q6, q3], q0),
  ([q1, q8, q6, q3], q0)]
theorem lawRan : lawRun tTopIndirect8 20000 200 4 lawT lawBad = true := by kernel_rfl
end Go.Proofs.YtenebabkanehpaaGreatDoor.LawTopIndirect
