/- The ways of the code through numbers, and that the code takes no other. No condition. -/
import Derived.Test.YtjgobpmhdeancaaGsMemoryActs
import Derived.KernelRfl
namespace Go.Proofs.Ytjgobpmhdeancaa.RunMemoryActs
open Go Go.Sx Go.Proofs.Ytjgobpmhdeancaa Go.Proofs.Ytjgobpmhdeancaa.GsMemoryActs

def bd : Bd := kindBd 0 [some .i64, some .i64, some .i64]
def args : List V := [.agg [.int .i64 (.var 0), .int .i64 (.var 1)], .int .i64 (.var 2), .vf 0 (.lit 0)]
def lawR : List Leaf := [
  ([(.bin .le (.lit 131072) (.var 3)), (.bin .lt (.var 0) (.lit 0))], (.bool (.lit 1))),
  ([(.bin .le (.lit 131072) (.var 3)), (.bin .lt (.lit 65536) (.var 0)), (.bin .le (.lit 0) (.var 0))], (.bool (.lit 1))),
  ([(.bin .le (.lit 131072) (.var 3)), (.bin .lt (.var 1) (.var 0)), (.un .bnot (.bin .eq (.var 1) (.lit (-1)))), (.bin .le (.var 0) (.lit 65536)), (.bin .le (.lit 0) (.var 0))], (.bool (.lit 1))),
  ([(.bin .le (.lit 131072) (.var 3)), (.bin .lt (.lit 65536) (.var 1)), (.bin .le (.var 0) (.var 1)), (.un .bnot (.bin .eq (.var 1) (.lit (-1)))), (.bin .le (.var 0) (.lit 65536)), (.bin .le (.lit 0) (.var 0))], (.bool (.lit 1))),
  ([(.bin .le (.lit 131072) (.var 3)), (.bin .lt (.var 2) (.lit 0)), (.bin .le (.var 1) (.lit 65536)), (.bin .le (.var 0) (.var 1)), (.un .bnot (.bin .eq (.var 1) (.lit (-1)))), (.bin .le (.var 0) (.lit 65536)), (.bin .le (.lit 0) (.var 0))], (.bool (.lit 1))),
  ([(.bin .le (.lit 131072) (.var 3)), (.bin .lt (.lit 16) (.var 2)), (.bin .le (.lit 0) (.var 2)), (.bin .le (.var 1) (.lit 65536)), (.bin .le (.var 0) (.var 1)), (.un .bnot (.bin .eq (.var 1) (.lit (-1)))), (.bin .le (.var 0) (.lit 65536)), (.bin .le (.lit 0) (.var 0))], (.bool (.lit 1))),
  ([(.bin .le (.lit 131072) (.var 3)), (.bin .lt (.var 2) (.var 0)), (.bin .le (.var 2) (.lit 16)), (.bin .le (.lit 0) (.var 2)), (.bin .le (.var 1) (.lit 65536)), (.bin .le (.var 0) (.var 1)), (.un .bnot (.bin .eq (.var 1) (.lit (-1)))), (.bin .le (.var 0) (.lit 65536)), (.bin .le (.lit 0) (.var 0))], (.bool (.lit 1))),
  ([(.bin .le (.lit 131072) (.var 8)), (.bin .le (.var 3) (.var 6)), (.bin .le (.bin .add (.bin .mul (.var 3) (.lit 65536)) (.var 5)) (.lit 9223372036854775807)), (.bin .le (.var 0) (.var 2)), (.bin .le (.var 2) (.lit 16)), (.bin .le (.lit 0) (.var 2)), (.bin .le (.var 1) (.lit 65536)), (.bin .le (.var 0) (.var 1)), (.un .bnot (.bin .eq (.var 1) (.lit (-1)))), (.bin .le (.var 0) (.lit 65536)), (.bin .le (.lit 0) (.var 0))], (.bool (.lit 1))),
  ([(.bin .le (.lit 131072) (.var 3)), (.bin .lt (.var 2) (.lit 0)), (.bin .eq (.var 1) (.lit (-1))), (.bin .le (.var 0) (.lit 65536)), (.bin .le (.lit 0) (.var 0))], (.bool (.lit 1))),
  ([(.bin .le (.lit 131072) (.var 3)), (.bin .lt (.lit 16) (.var 2)), (.bin .le (.lit 0) (.var 2)), (.bin .eq (.var 1) (.lit (-1))), (.bin .le (.var 0) (.lit 65536)), (.bin .le (.lit 0) (.var 0))], (.bool (.lit 1))),
  ([(.bin .le (.lit 131072) (.var 3)), (.bin .lt (.var 2) (.var 0)), (.bin .le (.var 2) (.lit 16)), (.bin .le (.lit 0) (.var 2)), (.bin .eq (.var 1) (.lit (-1))), (.bin .le (.var 0) (.lit 65536)), (.bin .le (.lit 0) (.var 0))], (.bool (.lit 1))),
  ([(.bin .le (.lit 131072) (.var 8)), (.bin .le (.var 3) (.var 6)), (.bin .le (.bin .add (.bin .mul (.var 3) (.lit 65536)) (.var 5)) (.lit 9223372036854775807)), (.bin .le (.var 0) (.var 2)), (.bin .le (.var 2) (.lit 16)), (.bin .le (.lit 0) (.var 2)), (.bin .eq (.var 1) (.lit (-1))), (.bin .le (.var 0) (.lit 65536)), (.bin .le (.lit 0) (.var 0))], (.bool (.lit 1)))]
set_option maxRecDepth 100000 in
theorem lawRan : runOfI Try.prog noOracle loopedMemoryActs (bodies fns) inpMemoryActs 4000 7 3 bd [] args = some lawR := by kernel_rfl
end Go.Proofs.Ytjgobpmhdeancaa.RunMemoryActs
