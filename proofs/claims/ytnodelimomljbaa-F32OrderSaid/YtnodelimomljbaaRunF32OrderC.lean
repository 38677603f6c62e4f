/- The law's one way where the floats stand so. No condition. -/
import Derived.Test.YtnodelimomljbaaFns
import Derived.KernelRfl
namespace Go.Proofs.Ytnodelimomljbaa.RunF32Order
open Go Go.Sx Go.Sx.Flt
def caseC : List E := [bi .eq (bi (.ford .f32) (Flt.u32 (v 0)) (Flt.u32 (v 1))) (.lit 2), bi .eq (bi (.ford .f32) (Flt.u32 (v 0)) (Flt.u32 (v 0))) (.lit 0), bi .eq (bi (.ford .f32) (Flt.u32 (v 1)) (Flt.u32 (v 1))) (.lit 0)]
set_option maxRecDepth 100000 in
theorem ranC : runOf Try.prog (orcs (xOracle xts) (specOracle [aw32])) noLoops (bodies fns) [] 4000 21 [some .i64, some .i64] caseC = some [(caseC, .bool (.lit 1))] := by kernel_rfl
end Go.Proofs.Ytnodelimomljbaa.RunF32Order
