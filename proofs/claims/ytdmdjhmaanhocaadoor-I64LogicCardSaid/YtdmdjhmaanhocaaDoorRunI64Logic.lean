/- The ways of the code through numbers, and that the code takes no other. No condition. -/
import Derived.Test.YtdmdjhmaanhocaaDoorFns
import Derived.Test.YtdmdjhmaanhocaaDoorPlDoorSp
import Derived.KernelRfl
namespace Go.Proofs.YtdmdjhmaanhocaaDoor.RunI64Logic
open Go Go.Sx Go.Sx.Door

def lawR : List Leaf := [
  ([(.bin .eq (.bin (.bits .andNot .i64) (.bin (.bits .and .i64) (.var 0) (.var 1)) (.var 0)) (.lit 0)), (.bin .eq (.un (.wrap .i64) (.bin .sub (.bin (.bits .or .i64) (.var 0) (.var 1)) (.bin (.bits .and .i64) (.var 0) (.var 1)))) (.bin (.bits .xor .i64) (.var 0) (.var 1))), (.bin .eq (.un (.wrap .i64) (.bin .add (.bin (.bits .and .i64) (.var 0) (.var 1)) (.bin (.bits .or .i64) (.var 0) (.var 1)))) (.un (.wrap .i64) (.bin .add (.var 0) (.var 1)))), (.bin .eq (.bin (.bits .xor .i64) (.bin (.bits .xor .i64) (.var 0) (.var 1)) (.var 1)) (.var 0))], (.bool (.bin .eq (.bin (.bits .andNot .i64) (.var 0) (.bin (.bits .or .i64) (.var 0) (.var 1))) (.lit 0)))),
  ([(.un .bnot (.bin .eq (.bin (.bits .andNot .i64) (.bin (.bits .and .i64) (.var 0) (.var 1)) (.var 0)) (.lit 0))), (.bin .eq (.un (.wrap .i64) (.bin .sub (.bin (.bits .or .i64) (.var 0) (.var 1)) (.bin (.bits .and .i64) (.var 0) (.var 1)))) (.bin (.bits .xor .i64) (.var 0) (.var 1))), (.bin .eq (.un (.wrap .i64) (.bin .add (.bin (.bits .and .i64) (.var 0) (.var 1)) (.bin (.bits .or .i64) (.var 0) (.var 1)))) (.un (.wrap .i64) (.bin .add (.var 0) (.var 1)))), (.bin .eq (.bin (.bits .xor .i64) (.bin (.bits .xor .i64) (.var 0) (.var 1)) (.var 1)) (.var 0))], (.bool (.lit 0))),
  ([(.un .bnot (.bin .eq (.un (.wrap .i64) (.bin .sub (.bin (.bits .or .i64) (.var 0) (.var 1)) (.bin (.bits .and .i64) (.var 0) (.var 1)))) (.bin (.bits .xor .i64) (.var 0) (.var 1)))), (.bin .eq (.un (.wrap .i64) (.bin .add (.bin (.bits .and .i64) (.var 0) (.var 1)) (.bin (.bits .or .i64) (.var 0) (.var 1)))) (.un (.wrap .i64) (.bin .add (.var 0) (.var 1)))), (.bin .eq (.bin (.bits .xor .i64) (.bin (.bits .xor .i64) (.var 0) (.var 1)) (.var 1)) (.var 0))], (.bool (.lit 0))),
  ([(.un .bnot (.bin .eq (.un (.wrap .i64) (.bin .add (.bin (.bits .and .i64) (.var 0) (.var 1)) (.bin (.bits .or .i64) (.var 0) (.var 1)))) (.un (.wrap .i64) (.bin .add (.var 0) (.var 1))))), (.bin .eq (.bin (.bits .xor .i64) (.bin (.bits .xor .i64) (.var 0) (.var 1)) (.var 1)) (.var 0))], (.bool (.lit 0))),
  ([(.un .bnot (.bin .eq (.bin (.bits .xor .i64) (.bin (.bits .xor .i64) (.var 0) (.var 1)) (.var 1)) (.var 0)))], (.bool (.lit 0)))]
set_option maxRecDepth 100000 in
theorem lawRan : runOf Tryd.prog (specOracle all) (loopOracle lspecs) (bodies fns) tab 4000 11 [some .i64, some .i64] [] = some lawR := by kernel_rfl
end Go.Proofs.YtdmdjhmaanhocaaDoor.RunI64Logic
