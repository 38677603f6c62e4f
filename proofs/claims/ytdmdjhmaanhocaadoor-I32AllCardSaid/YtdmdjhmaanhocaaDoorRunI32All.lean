/- The ways of the code through numbers, and that the code takes no other. No condition. -/
import Derived.Test.YtdmdjhmaanhocaaDoorFns
import Derived.Test.YtdmdjhmaanhocaaDoorPlDoorOq
import Derived.KernelRfl
namespace Go.Proofs.YtdmdjhmaanhocaaDoor.RunI32All
open Go Go.Sx Go.Sx.Door

def lawR : List Leaf := [
  ([], (.bool (.lit 1)))]
set_option maxRecDepth 100000 in
theorem lawRan : runOf Tryd.prog (specOracle ops32) (loopOracle lspecs) (bodies fns) tab 4000 15 [some .i64, some .i64, some .i64] [] = some lawR := by kernel_rfl
end Go.Proofs.YtdmdjhmaanhocaaDoor.RunI32All
