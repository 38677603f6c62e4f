/- The law's one way where the numbers stand so. No condition. -/
import Derived.Test.YtdmdjhmaanhocaaDoorFns
import Derived.Test.YtdmdjhmaanhocaaDoorPlDoorOp
import Derived.KernelRfl
namespace Go.Proofs.YtdmdjhmaanhocaaDoor.RunI32Order
open Go Go.Sx Go.Sx.Door
def caseC : List E := [(bi .eq (Sx.Door.u32 (v 0)) (Sx.Door.u32 (v 1))), bi .le (Sx.Door.i32 (v 0)) (Sx.Door.i32 (v 1)), bi .le (Sx.Door.i32 (v 1)) (Sx.Door.i32 (v 0)), bi .le (Sx.Door.u32 (v 0)) (Sx.Door.u32 (v 1)), bi .le (Sx.Door.u32 (v 1)) (Sx.Door.u32 (v 0))]
set_option maxRecDepth 100000 in
theorem ranC : runOf Tryd.prog (specOracle all) (loopOracle lspecs) (bodies fns) tab 4000 19 [some .i64, some .i64] caseC = some [(caseC, .bool (.lit 1))] := by kernel_rfl
end Go.Proofs.YtdmdjhmaanhocaaDoor.RunI32Order
