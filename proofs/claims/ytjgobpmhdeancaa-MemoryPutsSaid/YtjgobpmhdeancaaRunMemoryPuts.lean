/- The ways of the code through numbers, and that the code takes no other. No condition. -/
import Derived.Test.YtjgobpmhdeancaaFns
import Derived.Test.YtjgobpmhdeancaaSxT
import Derived.KernelRfl
namespace Go.Proofs.Ytjgobpmhdeancaa.RunMemoryPuts
open Go Go.Sx

def bd : Bd := [(.var 0, kindIv .i64), (.var 1, (some 0, none))]
def args : List V := [.int .i64 (.var 0), .astr ⟨.var 1, .u8, .fn 1 (.lit 0), []⟩]
def lawR : List Leaf := [
  ([(.bin .lt (.var 0) (.lit 0)), (.bin .lt (.lit 1000) (.var 1)), (.bin .le (.lit 131072) (.var 2))], (.bool (.lit 1))),
  ([(.bin .lt (.lit 65536) (.var 0)), (.bin .le (.lit 0) (.var 0)), (.bin .lt (.lit 1000) (.var 1)), (.bin .le (.lit 131072) (.var 2))], (.bool (.lit 1))),
  ([(.bin .lt (.bin .sub (.lit 65536) (.var 0)) (.lit 1000)), (.bin .le (.var 0) (.lit 65536)), (.bin .le (.lit 0) (.var 0)), (.bin .lt (.lit 1000) (.var 1)), (.bin .le (.lit 131072) (.var 2))], (.bool (.lit 1))),
  ([(.bin .le (.lit 1000) (.bin .sub (.lit 65536) (.var 0))), (.bin .le (.var 0) (.lit 65536)), (.bin .le (.lit 0) (.var 0)), (.bin .lt (.lit 1000) (.var 1)), (.bin .le (.lit 131072) (.var 2))], (.bool (.lit 1))),
  ([(.bin .lt (.var 0) (.lit 0)), (.bin .le (.var 1) (.lit 1000)), (.bin .le (.lit 131072) (.var 2))], (.bool (.lit 1))),
  ([(.bin .lt (.lit 65536) (.var 0)), (.bin .le (.lit 0) (.var 0)), (.bin .le (.var 1) (.lit 1000)), (.bin .le (.lit 131072) (.var 2))], (.bool (.lit 1))),
  ([(.bin .lt (.bin .sub (.lit 65536) (.var 0)) (.var 1)), (.bin .le (.var 0) (.lit 65536)), (.bin .le (.lit 0) (.var 0)), (.bin .le (.var 1) (.lit 1000)), (.bin .le (.lit 131072) (.var 2))], (.bool (.lit 1))),
  ([(.bin .lt (.var 0) (.lit 65536)), (.bin .le (.var 1) (.bin .sub (.lit 65536) (.var 0))), (.bin .le (.var 0) (.lit 65536)), (.bin .le (.lit 0) (.var 0)), (.bin .le (.var 1) (.lit 1000)), (.bin .le (.lit 131072) (.var 2))], (.bool (.lit 1))),
  ([(.bin .le (.lit 65536) (.var 0)), (.bin .le (.var 1) (.bin .sub (.lit 65536) (.var 0))), (.bin .le (.var 0) (.lit 65536)), (.bin .le (.lit 0) (.var 0)), (.bin .le (.var 1) (.lit 1000)), (.bin .le (.lit 131072) (.var 2))], (.bool (.lit 1)))]
set_option maxRecDepth 100000 in
theorem lawRan : runOfV Try.prog noOracle noLoops (bodies fns) [] 4000 8 2 bd args = some lawR := by kernel_rfl
end Go.Proofs.Ytjgobpmhdeancaa.RunMemoryPuts
