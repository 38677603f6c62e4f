/- The law's one way where the numbers stand so. No condition. -/
import Derived.Test.YtdmdjhmaanhocaaDoorFns
import Derived.Test.YtdmdjhmaanhocaaDoorPlDoorOp
import Derived.KernelRfl
namespace Go.Proofs.YtdmdjhmaanhocaaDoor.RunI32Order
open Go Go.Sx Go.Sx.Door
def caseB : List E := [bi .lt (Sx.Door.i32 (v 0)) (Sx.Door.i32 (v 1)), bi .le (Sx.Door.i32 (v 0)) (Sx.Door.i32 (v 1)), no (bi .eq (Sx.Door.u32 (v 0)) (Sx.Door.u32 (v 1))), bi .lt (Sx.Door.u32 (v 1)) (Sx.Door.u32 (v 0)), bi .le (Sx.Door.u32 (v 1)) (Sx.Door.u32 (v 0))]
set_option maxRecDepth 100000 in
theorem ranB : runOf Tryd.prog (specOracle all) (loopOracle lspecs) (bodies fns) tab 4000 19 [some .i64, some .i64] caseB = some [(caseB, .bool (.lit 1))] := by kernel_rfl
end Go.Proofs.YtdmdjhmaanhocaaDoor.RunI32Order
