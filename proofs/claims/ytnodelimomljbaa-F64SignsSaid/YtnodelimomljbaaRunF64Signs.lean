/- The ways of the code through numbers, and that the code takes no other. No condition. -/
import Derived.Test.YtnodelimomljbaaFns
import Derived.Test.YtnodelimomljbaaPlFltSp
import Derived.KernelRfl
namespace Go.Proofs.Ytnodelimomljbaa.RunF64Signs
open Go Go.Sx Go.Sx.Flt

def lawR : List Leaf := [
  ([], (.bool (.bin .eq (.bin (.bits .or .i64) (.bin (.bits .andNot .i64) (.bin (.bits .andNot .i64) (.var 0) (.lit (-9223372036854775808))) (.lit (-9223372036854775808))) (.bin (.bits .and .i64) (.var 1) (.lit (-9223372036854775808)))) (.bin (.bits .or .i64) (.bin (.bits .andNot .i64) (.var 0) (.lit (-9223372036854775808))) (.bin (.bits .and .i64) (.var 1) (.lit (-9223372036854775808)))))))]
set_option maxRecDepth 100000 in
theorem lawRan : runOf Try.prog (orcs (xOracle xts) (specOracle specs64)) noLoops (bodies fns) [] 4000 12 [some .i64, some .i64] [] = some lawR := by kernel_rfl
end Go.Proofs.Ytnodelimomljbaa.RunF64Signs
