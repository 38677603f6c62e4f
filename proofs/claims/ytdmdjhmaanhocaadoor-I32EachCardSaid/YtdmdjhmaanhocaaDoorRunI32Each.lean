/- The ways of the code through numbers, and that the code takes no other. No condition. -/
import Derived.Test.YtdmdjhmaanhocaaDoorFns
import Derived.Test.YtdmdjhmaanhocaaDoorPlDoorOq
import Derived.KernelRfl
namespace Go.Proofs.YtdmdjhmaanhocaaDoor.RunI32Each
open Go Go.Sx Go.Sx.Door

def eachLR : List LL := [
  .cont [(.bin .lt (.var 2) (.lit 130)), (.bin .le (.lit 60) (.var 2)), (.bin .le (.var 2) (.lit 130))] [(.var 0), (.var 1), (.bin .add (.var 2) (.lit 1))],
  .out [(.bin .le (.lit 130) (.var 2)), (.bin .le (.lit 60) (.var 2)), (.bin .le (.var 2) (.lit 130))] [(.int .i64 (.var 2))]]
set_option maxRecDepth 100000 in
theorem eachLRan : lrunOf Tryd.prog (specOracle ops32) (loopOracle lspecs) (bodies fns) tab 4000 each32 = some eachLR := by kernel_rfl
def lawR : List Leaf := [
  ([], (.bool (.lit 1)))]
set_option maxRecDepth 100000 in
theorem lawRan : runOf Tryd.prog (specOracle ops32) (loopOracle (each32 :: lspecs)) (bodies fns) tab 4000 16 [some .i64, some .i64] [] = some lawR := by kernel_rfl
end Go.Proofs.YtdmdjhmaanhocaaDoor.RunI32Each
