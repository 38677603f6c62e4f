/- The ways of the code through numbers, and that the code takes no other. No condition. -/
import Derived.Test.YtdmdjhmaanhocaaDoorFns
import Derived.Test.YtdmdjhmaanhocaaDoorPlDoorSp
import Derived.KernelRfl
namespace Go.Proofs.YtdmdjhmaanhocaaDoor.RunI64Signs
open Go Go.Sx Go.Sx.Door

def lawR : List Leaf := [
  ([(.bin .eq (.var 1) (.lit 0))], (.bool (.lit 1))),
  ([(.bin .eq (.var 1) (.lit (-1))), (.bin .eq (.var 0) (.lit (-9223372036854775808))), (.un .bnot (.bin .eq (.var 1) (.lit 0)))], (.bool (.lit 1))),
  ([(.bin .eq (.un (.wrap .i64) (.bin .sub (.lit 0) (.var 0))) (.lit (-9223372036854775808))), (.bin .lt (.var 1) (.lit 0)), (.un .bnot (.bin .eq (.var 1) (.lit (-1)))), (.bin .eq (.var 0) (.lit (-9223372036854775808))), (.un .bnot (.bin .eq (.var 1) (.lit 0)))], (.bool (.bin .eq (.un (.wrap .i64) (.bin .tdiv (.var 0) (.var 1))) (.un (.wrap .i64) (.bin .ediv (.un (.wrap .u64) (.bin .sub (.lit 0) (.var 0))) (.un (.wrap .u64) (.bin .sub (.lit 0) (.var 1)))))))),
  ([(.un .bnot (.bin .eq (.un (.wrap .i64) (.bin .sub (.lit 0) (.var 0))) (.lit (-9223372036854775808)))), (.bin .lt (.var 1) (.lit 0)), (.un .bnot (.bin .eq (.var 1) (.lit (-1)))), (.bin .eq (.var 0) (.lit (-9223372036854775808))), (.un .bnot (.bin .eq (.var 1) (.lit 0)))], (.bool (.bin .eq (.un (.wrap .i64) (.bin .tdiv (.var 0) (.var 1))) (.un (.wrap .i64) (.bin .ediv (.un (.wrap .u64) (.bin .sub (.lit 0) (.var 0))) (.un (.wrap .u64) (.bin .sub (.lit 0) (.var 1)))))))),
  ([(.bin .eq (.un (.wrap .i64) (.bin .sub (.lit 0) (.var 0))) (.lit (-9223372036854775808))), (.bin .le (.lit 0) (.var 1)), (.un .bnot (.bin .eq (.var 1) (.lit (-1)))), (.bin .eq (.var 0) (.lit (-9223372036854775808))), (.un .bnot (.bin .eq (.var 1) (.lit 0)))], (.bool (.bin .eq (.un (.wrap .i64) (.bin .tdiv (.var 0) (.var 1))) (.un (.wrap .i64) (.bin .sub (.lit 0) (.un (.wrap .i64) (.bin .ediv (.un (.wrap .u64) (.bin .sub (.lit 0) (.var 0))) (.var 1)))))))),
  ([(.un .bnot (.bin .eq (.un (.wrap .i64) (.bin .sub (.lit 0) (.var 0))) (.lit (-9223372036854775808)))), (.bin .le (.lit 0) (.var 1)), (.un .bnot (.bin .eq (.var 1) (.lit (-1)))), (.bin .eq (.var 0) (.lit (-9223372036854775808))), (.un .bnot (.bin .eq (.var 1) (.lit 0)))], (.bool (.bin .eq (.un (.wrap .i64) (.bin .tdiv (.var 0) (.var 1))) (.un (.wrap .i64) (.bin .sub (.lit 0) (.un (.wrap .i64) (.bin .ediv (.un (.wrap .u64) (.bin .sub (.lit 0) (.var 0))) (.var 1)))))))),
  ([(.bin .lt (.var 1) (.lit 0)), (.bin .lt (.var 0) (.lit 0)), (.un .bnot (.bin .eq (.var 0) (.lit (-9223372036854775808)))), (.un .bnot (.bin .eq (.var 1) (.lit 0)))], (.bool (.bin .eq (.un (.wrap .i64) (.bin .tdiv (.var 0) (.var 1))) (.un (.wrap .i64) (.bin .ediv (.bin .sub (.lit 0) (.var 0)) (.un (.wrap .u64) (.bin .sub (.lit 0) (.var 1)))))))),
  ([(.bin .le (.lit 0) (.var 1)), (.bin .lt (.var 0) (.lit 0)), (.un .bnot (.bin .eq (.var 0) (.lit (-9223372036854775808)))), (.un .bnot (.bin .eq (.var 1) (.lit 0)))], (.bool (.bin .eq (.un (.wrap .i64) (.bin .tdiv (.var 0) (.var 1))) (.un (.wrap .i64) (.bin .sub (.lit 0) (.un (.wrap .i64) (.bin .ediv (.bin .sub (.lit 0) (.var 0)) (.var 1)))))))),
  ([(.bin .lt (.var 1) (.lit 0)), (.bin .le (.lit 0) (.var 0)), (.un .bnot (.bin .eq (.var 0) (.lit (-9223372036854775808)))), (.un .bnot (.bin .eq (.var 1) (.lit 0)))], (.bool (.bin .eq (.un (.wrap .i64) (.bin .tdiv (.var 0) (.var 1))) (.un (.wrap .i64) (.bin .sub (.lit 0) (.un (.wrap .i64) (.bin .ediv (.var 0) (.un (.wrap .u64) (.bin .sub (.lit 0) (.var 1)))))))))),
  ([(.bin .le (.lit 0) (.var 1)), (.bin .le (.lit 0) (.var 0)), (.un .bnot (.bin .eq (.var 0) (.lit (-9223372036854775808)))), (.un .bnot (.bin .eq (.var 1) (.lit 0)))], (.bool (.bin .eq (.un (.wrap .i64) (.bin .tdiv (.var 0) (.var 1))) (.un (.wrap .i64) (.bin .ediv (.var 0) (.var 1))))))]
set_option maxRecDepth 100000 in
theorem lawRan : runOf Tryd.prog (specOracle all) (loopOracle lspecs) (bodies fns) tab 4000 14 [some .i64, some .i64] [] = some lawR := by kernel_rfl
end Go.Proofs.YtdmdjhmaanhocaaDoor.RunI64Signs
