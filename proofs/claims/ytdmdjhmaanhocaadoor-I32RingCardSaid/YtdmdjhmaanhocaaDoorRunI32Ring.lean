/- The ways of the code through numbers, and that the code takes no other. No condition. -/
import Derived.Test.YtdmdjhmaanhocaaDoorFns
import Derived.Test.YtdmdjhmaanhocaaDoorPlDoorSp
import Derived.KernelRfl
namespace Go.Proofs.YtdmdjhmaanhocaaDoor.RunI32Ring
open Go Go.Sx Go.Sx.Door

def lawR : List Leaf := [
  ([(.bin .eq (.un (.wrap .u32) (.bin .mul (.un (.wrap .u32) (.bin .add (.un (.wrap .u32) (.var 0)) (.un (.wrap .u32) (.var 1)))) (.un (.wrap .u32) (.var 2)))) (.un (.wrap .u32) (.bin .add (.un (.wrap .u32) (.bin .mul (.un (.wrap .u32) (.var 0)) (.un (.wrap .u32) (.var 2)))) (.un (.wrap .u32) (.bin .mul (.un (.wrap .u32) (.var 1)) (.un (.wrap .u32) (.var 2))))))), (.bin .eq (.un (.wrap .u32) (.bin .add (.un (.wrap .u32) (.var 0)) (.un (.wrap .u32) (.var 1)))) (.un (.wrap .u32) (.bin .add (.un (.wrap .u32) (.var 1)) (.un (.wrap .u32) (.var 0)))))], (.bool (.bin .eq (.un (.wrap .u32) (.bin .mul (.un (.wrap .u32) (.var 0)) (.un (.wrap .u32) (.var 2)))) (.un (.wrap .u32) (.bin .mul (.un (.wrap .u32) (.var 2)) (.un (.wrap .u32) (.var 0))))))),
  ([(.un .bnot (.bin .eq (.un (.wrap .u32) (.bin .mul (.un (.wrap .u32) (.bin .add (.un (.wrap .u32) (.var 0)) (.un (.wrap .u32) (.var 1)))) (.un (.wrap .u32) (.var 2)))) (.un (.wrap .u32) (.bin .add (.un (.wrap .u32) (.bin .mul (.un (.wrap .u32) (.var 0)) (.un (.wrap .u32) (.var 2)))) (.un (.wrap .u32) (.bin .mul (.un (.wrap .u32) (.var 1)) (.un (.wrap .u32) (.var 2)))))))), (.bin .eq (.un (.wrap .u32) (.bin .add (.un (.wrap .u32) (.var 0)) (.un (.wrap .u32) (.var 1)))) (.un (.wrap .u32) (.bin .add (.un (.wrap .u32) (.var 1)) (.un (.wrap .u32) (.var 0)))))], (.bool (.lit 0))),
  ([(.un .bnot (.bin .eq (.un (.wrap .u32) (.bin .add (.un (.wrap .u32) (.var 0)) (.un (.wrap .u32) (.var 1)))) (.un (.wrap .u32) (.bin .add (.un (.wrap .u32) (.var 1)) (.un (.wrap .u32) (.var 0))))))], (.bool (.lit 0)))]
set_option maxRecDepth 100000 in
theorem lawRan : runOf Tryd.prog (specOracle all) (loopOracle lspecs) (bodies fns) tab 4000 18 [some .i64, some .i64, some .i64] [] = some lawR := by kernel_rfl
end Go.Proofs.YtdmdjhmaanhocaaDoor.RunI32Ring
