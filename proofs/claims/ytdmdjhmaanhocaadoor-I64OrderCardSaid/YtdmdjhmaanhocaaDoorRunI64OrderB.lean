/- The law's one way where the numbers stand so. No condition. -/
import Derived.Test.YtdmdjhmaanhocaaDoorFns
import Derived.Test.YtdmdjhmaanhocaaDoorPlDoorOp
import Derived.KernelRfl
namespace Go.Proofs.YtdmdjhmaanhocaaDoor.RunI64Order
open Go Go.Sx Go.Sx.Door
def caseB : List E := [bi .lt (v 0) (v 1), bi .le (v 0) (v 1), no (bi .eq (v 0) (v 1)), bi .lt (Sx.Door.u64 (v 1)) (Sx.Door.u64 (v 0)), bi .le (Sx.Door.u64 (v 1)) (Sx.Door.u64 (v 0))]
set_option maxRecDepth 100000 in
theorem ranB : runOf Tryd.prog (specOracle all) (loopOracle lspecs) (bodies fns) tab 4000 10 [some .i64, some .i64] caseB = some [(caseB, .bool (.lit 1))] := by kernel_rfl
end Go.Proofs.YtdmdjhmaanhocaaDoor.RunI64Order
