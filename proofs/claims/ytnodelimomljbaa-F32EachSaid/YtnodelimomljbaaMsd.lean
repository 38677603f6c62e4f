/- Texts that a claim needs, put together: the engine, plain lemmas, contracts. No condition. -/
import Derived.Test.YtnodelimomljbaaMsb
import Derived.Test.YtnodelimomljbaaMsc
import Derived.KernelRfl

/- The ways of the reference's single floats through numbers, and that the code takes no other. No condition. -/
namespace Go.Proofs.Ytnodelimomljbaa.RunRndB03
open Go Go.Sx Go.Sx.Flt Go.Sx.Ref

def rndB03Rz0 : E := (.bin .add (.fn 0 (.bin .add (.bin .mul (.var 1) (.lit 18446744073709551616)) (.var 2)) (.lit 0) (.lit 0)) (.lit (-24)))
def rndB03Rz1 : E := (.fn 2 (.bin .add (.lit 0) (.bin (.shl .u64) (.var 2) (.bin .sub (.lit 0) rndB03Rz0))) rndB03Rz0 (.lit 0))
def rndB03Rz2 : E := (.bin .eq (.var 6) (.fn 3 (.bin .add (.lit 0) (.bin (.shl .u64) (.var 2) (.bin .sub (.lit 0) rndB03Rz0))) rndB03Rz0 (.lit 0)))
def rndB03Rz3 : E := (.bin (.bits .or .u64) (.ite (.un .bnot (.un .bnot (.var 0))) (.lit 2147483648) (.lit 0)) (.un (.wrap .u64) (.bin .mul (.un (.wrap .u64) (.bin .add (.bin .add (.var 3) rndB03Rz0) (.lit 151))) (.lit 8388608))))
def rndB03Rz4 : E := (.bin (.bits .or .u64) (.ite (.un .bnot (.un .bnot (.var 0))) (.lit 2147483648) (.lit 0)) (.un (.wrap .u64) (.bin .mul (.un (.wrap .u64) (.bin .add (.bin .add (.var 3) rndB03Rz0) (.lit 150))) (.lit 8388608))))
def rndB03R : List Leaf := [
  ([(.bin .eq (.bin (.bits .or .u64) (.var 1) (.var 2)) (.lit 0)), (.bin .lt rndB03Rz0 (.lit 0)), (.bin .le (.bin .sub (.lit (-149)) (.var 3)) rndB03Rz0), (.bin .le (.lit (-5000)) (.var 3)), (.bin .le (.var 3) (.lit 5000))], (.int .u64 (.ite (.un .bnot (.un .bnot (.var 0))) (.lit 2147483648) (.lit 0)))),
  ([(.bin .le (.lit 255) (.bin .add (.bin .add (.var 3) rndB03Rz0) (.lit 151))), (.bin .eq (.un (.wrap .u64) (.bin .add (.var 5) (.lit 1))) (.lit 16777216)), (.bin .eq (.var 6) (.lit 1)), rndB03Rz2, (.bin .eq (.var 5) (.un (.wrap .u64) rndB03Rz1)), (.bin .eq (.var 4) (.un (.wrap .u64) (.bin .ediv rndB03Rz1 (.lit 18446744073709551616)))), (.un .bnot (.bin .eq (.bin (.bits .or .u64) (.var 1) (.var 2)) (.lit 0))), (.bin .lt rndB03Rz0 (.lit 0)), (.bin .le (.bin .sub (.lit (-149)) (.var 3)) rndB03Rz0), (.bin .le (.lit (-5000)) (.var 3)), (.bin .le (.var 3) (.lit 5000))], (.int .u64 (.ite (.un .bnot (.un .bnot (.var 0))) (.lit 4286578688) (.lit 2139095040)))),
  ([(.bin .lt (.bin .add (.bin .add (.var 3) rndB03Rz0) (.lit 151)) (.lit 255)), (.bin .eq (.un (.wrap .u64) (.bin .add (.var 5) (.lit 1))) (.lit 16777216)), (.bin .eq (.var 6) (.lit 1)), rndB03Rz2, (.bin .eq (.var 5) (.un (.wrap .u64) rndB03Rz1)), (.bin .eq (.var 4) (.un (.wrap .u64) (.bin .ediv rndB03Rz1 (.lit 18446744073709551616)))), (.un .bnot (.bin .eq (.bin (.bits .or .u64) (.var 1) (.var 2)) (.lit 0))), (.bin .lt rndB03Rz0 (.lit 0)), (.bin .le (.bin .sub (.lit (-149)) (.var 3)) rndB03Rz0), (.bin .le (.lit (-5000)) (.var 3)), (.bin .le (.var 3) (.lit 5000))], (.int .u64 (.bin (.bits .or .u64) rndB03Rz3 (.bin .emod (.bin .ediv (.un (.wrap .u64) (.bin .add (.var 5) (.lit 1))) (.lit 2)) (.lit 8388608))))),
  ([(.bin .lt (.un (.wrap .u64) (.bin .add (.var 5) (.lit 1))) (.lit 8388608)), (.un .bnot (.bin .eq (.un (.wrap .u64) (.bin .add (.var 5) (.lit 1))) (.lit 16777216))), (.bin .eq (.var 6) (.lit 1)), rndB03Rz2, (.bin .eq (.var 5) (.un (.wrap .u64) rndB03Rz1)), (.bin .eq (.var 4) (.un (.wrap .u64) (.bin .ediv rndB03Rz1 (.lit 18446744073709551616)))), (.un .bnot (.bin .eq (.bin (.bits .or .u64) (.var 1) (.var 2)) (.lit 0))), (.bin .lt rndB03Rz0 (.lit 0)), (.bin .le (.bin .sub (.lit (-149)) (.var 3)) rndB03Rz0), (.bin .le (.lit (-5000)) (.var 3)), (.bin .le (.var 3) (.lit 5000))], (.int .u64 (.bin (.bits .or .u64) (.ite (.un .bnot (.un .bnot (.var 0))) (.lit 2147483648) (.lit 0)) (.un (.wrap .u64) (.bin .add (.var 5) (.lit 1)))))),
  ([(.bin .le (.lit 255) (.bin .add (.bin .add (.var 3) rndB03Rz0) (.lit 150))), (.bin .le (.lit 8388608) (.un (.wrap .u64) (.bin .add (.var 5) (.lit 1)))), (.un .bnot (.bin .eq (.un (.wrap .u64) (.bin .add (.var 5) (.lit 1))) (.lit 16777216))), (.bin .eq (.var 6) (.lit 1)), rndB03Rz2, (.bin .eq (.var 5) (.un (.wrap .u64) rndB03Rz1)), (.bin .eq (.var 4) (.un (.wrap .u64) (.bin .ediv rndB03Rz1 (.lit 18446744073709551616)))), (.un .bnot (.bin .eq (.bin (.bits .or .u64) (.var 1) (.var 2)) (.lit 0))), (.bin .lt rndB03Rz0 (.lit 0)), (.bin .le (.bin .sub (.lit (-149)) (.var 3)) rndB03Rz0), (.bin .le (.lit (-5000)) (.var 3)), (.bin .le (.var 3) (.lit 5000))], (.int .u64 (.ite (.un .bnot (.un .bnot (.var 0))) (.lit 4286578688) (.lit 2139095040)))),
  ([(.bin .lt (.bin .add (.bin .add (.var 3) rndB03Rz0) (.lit 150)) (.lit 255)), (.bin .le (.lit 8388608) (.un (.wrap .u64) (.bin .add (.var 5) (.lit 1)))), (.un .bnot (.bin .eq (.un (.wrap .u64) (.bin .add (.var 5) (.lit 1))) (.lit 16777216))), (.bin .eq (.var 6) (.lit 1)), rndB03Rz2, (.bin .eq (.var 5) (.un (.wrap .u64) rndB03Rz1)), (.bin .eq (.var 4) (.un (.wrap .u64) (.bin .ediv rndB03Rz1 (.lit 18446744073709551616)))), (.un .bnot (.bin .eq (.bin (.bits .or .u64) (.var 1) (.var 2)) (.lit 0))), (.bin .lt rndB03Rz0 (.lit 0)), (.bin .le (.bin .sub (.lit (-149)) (.var 3)) rndB03Rz0), (.bin .le (.lit (-5000)) (.var 3)), (.bin .le (.var 3) (.lit 5000))], (.int .u64 (.bin (.bits .or .u64) rndB03Rz4 (.bin .emod (.un (.wrap .u64) (.bin .add (.var 5) (.lit 1))) (.lit 8388608))))),
  ([(.bin .le (.lit 255) (.bin .add (.bin .add (.var 3) rndB03Rz0) (.lit 151))), (.bin .eq (.un (.wrap .u64) (.bin .add (.var 5) (.lit 1))) (.lit 16777216)), (.bin .eq (.bin .emod (.var 5) (.lit 2)) (.lit 1)), (.bin .eq (.var 6) (.lit 0)), (.un .bnot (.bin .eq (.var 6) (.lit 1))), rndB03Rz2, (.bin .eq (.var 5) (.un (.wrap .u64) rndB03Rz1)), (.bin .eq (.var 4) (.un (.wrap .u64) (.bin .ediv rndB03Rz1 (.lit 18446744073709551616)))), (.un .bnot (.bin .eq (.bin (.bits .or .u64) (.var 1) (.var 2)) (.lit 0))), (.bin .lt rndB03Rz0 (.lit 0)), (.bin .le (.bin .sub (.lit (-149)) (.var 3)) rndB03Rz0), (.bin .le (.lit (-5000)) (.var 3)), (.bin .le (.var 3) (.lit 5000))], (.int .u64 (.ite (.un .bnot (.un .bnot (.var 0))) (.lit 4286578688) (.lit 2139095040)))),
  ([(.bin .lt (.bin .add (.bin .add (.var 3) rndB03Rz0) (.lit 151)) (.lit 255)), (.bin .eq (.un (.wrap .u64) (.bin .add (.var 5) (.lit 1))) (.lit 16777216)), (.bin .eq (.bin .emod (.var 5) (.lit 2)) (.lit 1)), (.bin .eq (.var 6) (.lit 0)), (.un .bnot (.bin .eq (.var 6) (.lit 1))), rndB03Rz2, (.bin .eq (.var 5) (.un (.wrap .u64) rndB03Rz1)), (.bin .eq (.var 4) (.un (.wrap .u64) (.bin .ediv rndB03Rz1 (.lit 18446744073709551616)))), (.un .bnot (.bin .eq (.bin (.bits .or .u64) (.var 1) (.var 2)) (.lit 0))), (.bin .lt rndB03Rz0 (.lit 0)), (.bin .le (.bin .sub (.lit (-149)) (.var 3)) rndB03Rz0), (.bin .le (.lit (-5000)) (.var 3)), (.bin .le (.var 3) (.lit 5000))], (.int .u64 (.bin (.bits .or .u64) rndB03Rz3 (.bin .emod (.bin .ediv (.un (.wrap .u64) (.bin .add (.var 5) (.lit 1))) (.lit 2)) (.lit 8388608))))),
  ([(.bin .lt (.un (.wrap .u64) (.bin .add (.var 5) (.lit 1))) (.lit 8388608)), (.un .bnot (.bin .eq (.un (.wrap .u64) (.bin .add (.var 5) (.lit 1))) (.lit 16777216))), (.bin .eq (.bin .emod (.var 5) (.lit 2)) (.lit 1)), (.bin .eq (.var 6) (.lit 0)), (.un .bnot (.bin .eq (.var 6) (.lit 1))), rndB03Rz2, (.bin .eq (.var 5) (.un (.wrap .u64) rndB03Rz1)), (.bin .eq (.var 4) (.un (.wrap .u64) (.bin .ediv rndB03Rz1 (.lit 18446744073709551616)))), (.un .bnot (.bin .eq (.bin (.bits .or .u64) (.var 1) (.var 2)) (.lit 0))), (.bin .lt rndB03Rz0 (.lit 0)), (.bin .le (.bin .sub (.lit (-149)) (.var 3)) rndB03Rz0), (.bin .le (.lit (-5000)) (.var 3)), (.bin .le (.var 3) (.lit 5000))], (.int .u64 (.bin (.bits .or .u64) (.ite (.un .bnot (.un .bnot (.var 0))) (.lit 2147483648) (.lit 0)) (.un (.wrap .u64) (.bin .add (.var 5) (.lit 1)))))),
  ([(.bin .le (.lit 255) (.bin .add (.bin .add (.var 3) rndB03Rz0) (.lit 150))), (.bin .le (.lit 8388608) (.un (.wrap .u64) (.bin .add (.var 5) (.lit 1)))), (.un .bnot (.bin .eq (.un (.wrap .u64) (.bin .add (.var 5) (.lit 1))) (.lit 16777216))), (.bin .eq (.bin .emod (.var 5) (.lit 2)) (.lit 1)), (.bin .eq (.var 6) (.lit 0)), (.un .bnot (.bin .eq (.var 6) (.lit 1))), rndB03Rz2, (.bin .eq (.var 5) (.un (.wrap .u64) rndB03Rz1)), (.bin .eq (.var 4) (.un (.wrap .u64) (.bin .ediv rndB03Rz1 (.lit 18446744073709551616)))), (.un .bnot (.bin .eq (.bin (.bits .or .u64) (.var 1) (.var 2)) (.lit 0))), (.bin .lt rndB03Rz0 (.lit 0)), (.bin .le (.bin .sub (.lit (-149)) (.var 3)) rndB03Rz0), (.bin .le (.lit (-5000)) (.var 3)), (.bin .le (.var 3) (.lit 5000))], (.int .u64 (.ite (.un .bnot (.un .bnot (.var 0))) (.lit 4286578688) (.lit 2139095040)))),
  ([(.bin .lt (.bin .add (.bin .add (.var 3) rndB03Rz0) (.lit 150)) (.lit 255)), (.bin .le (.lit 8388608) (.un (.wrap .u64) (.bin .add (.var 5) (.lit 1)))), (.un .bnot (.bin .eq (.un (.wrap .u64) (.bin .add (.var 5) (.lit 1))) (.lit 16777216))), (.bin .eq (.bin .emod (.var 5) (.lit 2)) (.lit 1)), (.bin .eq (.var 6) (.lit 0)), (.un .bnot (.bin .eq (.var 6) (.lit 1))), rndB03Rz2, (.bin .eq (.var 5) (.un (.wrap .u64) rndB03Rz1)), (.bin .eq (.var 4) (.un (.wrap .u64) (.bin .ediv rndB03Rz1 (.lit 18446744073709551616)))), (.un .bnot (.bin .eq (.bin (.bits .or .u64) (.var 1) (.var 2)) (.lit 0))), (.bin .lt rndB03Rz0 (.lit 0)), (.bin .le (.bin .sub (.lit (-149)) (.var 3)) rndB03Rz0), (.bin .le (.lit (-5000)) (.var 3)), (.bin .le (.var 3) (.lit 5000))], (.int .u64 (.bin (.bits .or .u64) rndB03Rz4 (.bin .emod (.un (.wrap .u64) (.bin .add (.var 5) (.lit 1))) (.lit 8388608))))),
  ([(.bin .le (.lit 255) (.bin .add (.bin .add (.var 3) rndB03Rz0) (.lit 151))), (.bin .eq (.var 5) (.lit 16777216)), (.un .bnot (.bin .eq (.bin .emod (.var 5) (.lit 2)) (.lit 1))), (.bin .eq (.var 6) (.lit 0)), (.un .bnot (.bin .eq (.var 6) (.lit 1))), rndB03Rz2, (.bin .eq (.var 5) (.un (.wrap .u64) rndB03Rz1)), (.bin .eq (.var 4) (.un (.wrap .u64) (.bin .ediv rndB03Rz1 (.lit 18446744073709551616)))), (.un .bnot (.bin .eq (.bin (.bits .or .u64) (.var 1) (.var 2)) (.lit 0))), (.bin .lt rndB03Rz0 (.lit 0)), (.bin .le (.bin .sub (.lit (-149)) (.var 3)) rndB03Rz0), (.bin .le (.lit (-5000)) (.var 3)), (.bin .le (.var 3) (.lit 5000))], (.int .u64 (.ite (.un .bnot (.un .bnot (.var 0))) (.lit 4286578688) (.lit 2139095040)))),
  ([(.bin .lt (.bin .add (.bin .add (.var 3) rndB03Rz0) (.lit 151)) (.lit 255)), (.bin .eq (.var 5) (.lit 16777216)), (.un .bnot (.bin .eq (.bin .emod (.var 5) (.lit 2)) (.lit 1))), (.bin .eq (.var 6) (.lit 0)), (.un .bnot (.bin .eq (.var 6) (.lit 1))), rndB03Rz2, (.bin .eq (.var 5) (.un (.wrap .u64) rndB03Rz1)), (.bin .eq (.var 4) (.un (.wrap .u64) (.bin .ediv rndB03Rz1 (.lit 18446744073709551616)))), (.un .bnot (.bin .eq (.bin (.bits .or .u64) (.var 1) (.var 2)) (.lit 0))), (.bin .lt rndB03Rz0 (.lit 0)), (.bin .le (.bin .sub (.lit (-149)) (.var 3)) rndB03Rz0), (.bin .le (.lit (-5000)) (.var 3)), (.bin .le (.var 3) (.lit 5000))], (.int .u64 (.bin (.bits .or .u64) rndB03Rz3 (.bin .emod (.bin .ediv (.var 5) (.lit 2)) (.lit 8388608))))),
  ([(.bin .lt (.var 5) (.lit 8388608)), (.un .bnot (.bin .eq (.var 5) (.lit 16777216))), (.un .bnot (.bin .eq (.bin .emod (.var 5) (.lit 2)) (.lit 1))), (.bin .eq (.var 6) (.lit 0)), (.un .bnot (.bin .eq (.var 6) (.lit 1))), rndB03Rz2, (.bin .eq (.var 5) (.un (.wrap .u64) rndB03Rz1)), (.bin .eq (.var 4) (.un (.wrap .u64) (.bin .ediv rndB03Rz1 (.lit 18446744073709551616)))), (.un .bnot (.bin .eq (.bin (.bits .or .u64) (.var 1) (.var 2)) (.lit 0))), (.bin .lt rndB03Rz0 (.lit 0)), (.bin .le (.bin .sub (.lit (-149)) (.var 3)) rndB03Rz0), (.bin .le (.lit (-5000)) (.var 3)), (.bin .le (.var 3) (.lit 5000))], (.int .u64 (.bin (.bits .or .u64) (.ite (.un .bnot (.un .bnot (.var 0))) (.lit 2147483648) (.lit 0)) (.var 5)))),
  ([(.bin .le (.lit 255) (.bin .add (.bin .add (.var 3) rndB03Rz0) (.lit 150))), (.bin .le (.lit 8388608) (.var 5)), (.un .bnot (.bin .eq (.var 5) (.lit 16777216))), (.un .bnot (.bin .eq (.bin .emod (.var 5) (.lit 2)) (.lit 1))), (.bin .eq (.var 6) (.lit 0)), (.un .bnot (.bin .eq (.var 6) (.lit 1))), rndB03Rz2, (.bin .eq (.var 5) (.un (.wrap .u64) rndB03Rz1)), (.bin .eq (.var 4) (.un (.wrap .u64) (.bin .ediv rndB03Rz1 (.lit 18446744073709551616)))), (.un .bnot (.bin .eq (.bin (.bits .or .u64) (.var 1) (.var 2)) (.lit 0))), (.bin .lt rndB03Rz0 (.lit 0)), (.bin .le (.bin .sub (.lit (-149)) (.var 3)) rndB03Rz0), (.bin .le (.lit (-5000)) (.var 3)), (.bin .le (.var 3) (.lit 5000))], (.int .u64 (.ite (.un .bnot (.un .bnot (.var 0))) (.lit 4286578688) (.lit 2139095040)))),
  ([(.bin .lt (.bin .add (.bin .add (.var 3) rndB03Rz0) (.lit 150)) (.lit 255)), (.bin .le (.lit 8388608) (.var 5)), (.un .bnot (.bin .eq (.var 5) (.lit 16777216))), (.un .bnot (.bin .eq (.bin .emod (.var 5) (.lit 2)) (.lit 1))), (.bin .eq (.var 6) (.lit 0)), (.un .bnot (.bin .eq (.var 6) (.lit 1))), rndB03Rz2, (.bin .eq (.var 5) (.un (.wrap .u64) rndB03Rz1)), (.bin .eq (.var 4) (.un (.wrap .u64) (.bin .ediv rndB03Rz1 (.lit 18446744073709551616)))), (.un .bnot (.bin .eq (.bin (.bits .or .u64) (.var 1) (.var 2)) (.lit 0))), (.bin .lt rndB03Rz0 (.lit 0)), (.bin .le (.bin .sub (.lit (-149)) (.var 3)) rndB03Rz0), (.bin .le (.lit (-5000)) (.var 3)), (.bin .le (.var 3) (.lit 5000))], (.int .u64 (.bin (.bits .or .u64) rndB03Rz4 (.bin .emod (.var 5) (.lit 8388608))))),
  ([(.bin .le (.lit 255) (.bin .add (.bin .add (.var 3) rndB03Rz0) (.lit 151))), (.bin .eq (.var 5) (.lit 16777216)), (.un .bnot (.bin .eq (.var 6) (.lit 0))), (.un .bnot (.bin .eq (.var 6) (.lit 1))), rndB03Rz2, (.bin .eq (.var 5) (.un (.wrap .u64) rndB03Rz1)), (.bin .eq (.var 4) (.un (.wrap .u64) (.bin .ediv rndB03Rz1 (.lit 18446744073709551616)))), (.un .bnot (.bin .eq (.bin (.bits .or .u64) (.var 1) (.var 2)) (.lit 0))), (.bin .lt rndB03Rz0 (.lit 0)), (.bin .le (.bin .sub (.lit (-149)) (.var 3)) rndB03Rz0), (.bin .le (.lit (-5000)) (.var 3)), (.bin .le (.var 3) (.lit 5000))], (.int .u64 (.ite (.un .bnot (.un .bnot (.var 0))) (.lit 4286578688) (.lit 2139095040)))),
  ([(.bin .lt (.bin .add (.bin .add (.var 3) rndB03Rz0) (.lit 151)) (.lit 255)), (.bin .eq (.var 5) (.lit 16777216)), (.un .bnot (.bin .eq (.var 6) (.lit 0))), (.un .bnot (.bin .eq (.var 6) (.lit 1))), rndB03Rz2, (.bin .eq (.var 5) (.un (.wrap .u64) rndB03Rz1)), (.bin .eq (.var 4) (.un (.wrap .u64) (.bin .ediv rndB03Rz1 (.lit 18446744073709551616)))), (.un .bnot (.bin .eq (.bin (.bits .or .u64) (.var 1) (.var 2)) (.lit 0))), (.bin .lt rndB03Rz0 (.lit 0)), (.bin .le (.bin .sub (.lit (-149)) (.var 3)) rndB03Rz0), (.bin .le (.lit (-5000)) (.var 3)), (.bin .le (.var 3) (.lit 5000))], (.int .u64 (.bin (.bits .or .u64) rndB03Rz3 (.bin .emod (.bin .ediv (.var 5) (.lit 2)) (.lit 8388608))))),
  ([(.bin .lt (.var 5) (.lit 8388608)), (.un .bnot (.bin .eq (.var 5) (.lit 16777216))), (.un .bnot (.bin .eq (.var 6) (.lit 0))), (.un .bnot (.bin .eq (.var 6) (.lit 1))), rndB03Rz2, (.bin .eq (.var 5) (.un (.wrap .u64) rndB03Rz1)), (.bin .eq (.var 4) (.un (.wrap .u64) (.bin .ediv rndB03Rz1 (.lit 18446744073709551616)))), (.un .bnot (.bin .eq (.bin (.bits .or .u64) (.var 1) (.var 2)) (.lit 0))), (.bin .lt rndB03Rz0 (.lit 0)), (.bin .le (.bin .sub (.lit (-149)) (.var 3)) rndB03Rz0), (.bin .le (.lit (-5000)) (.var 3)), (.bin .le (.var 3) (.lit 5000))], (.int .u64 (.bin (.bits .or .u64) (.ite (.un .bnot (.un .bnot (.var 0))) (.lit 2147483648) (.lit 0)) (.var 5)))),
  ([(.bin .le (.lit 255) (.bin .add (.bin .add (.var 3) rndB03Rz0) (.lit 150))), (.bin .le (.lit 8388608) (.var 5)), (.un .bnot (.bin .eq (.var 5) (.lit 16777216))), (.un .bnot (.bin .eq (.var 6) (.lit 0))), (.un .bnot (.bin .eq (.var 6) (.lit 1))), rndB03Rz2, (.bin .eq (.var 5) (.un (.wrap .u64) rndB03Rz1)), (.bin .eq (.var 4) (.un (.wrap .u64) (.bin .ediv rndB03Rz1 (.lit 18446744073709551616)))), (.un .bnot (.bin .eq (.bin (.bits .or .u64) (.var 1) (.var 2)) (.lit 0))), (.bin .lt rndB03Rz0 (.lit 0)), (.bin .le (.bin .sub (.lit (-149)) (.var 3)) rndB03Rz0), (.bin .le (.lit (-5000)) (.var 3)), (.bin .le (.var 3) (.lit 5000))], (.int .u64 (.ite (.un .bnot (.un .bnot (.var 0))) (.lit 4286578688) (.lit 2139095040)))),
  ([(.bin .lt (.bin .add (.bin .add (.var 3) rndB03Rz0) (.lit 150)) (.lit 255)), (.bin .le (.lit 8388608) (.var 5)), (.un .bnot (.bin .eq (.var 5) (.lit 16777216))), (.un .bnot (.bin .eq (.var 6) (.lit 0))), (.un .bnot (.bin .eq (.var 6) (.lit 1))), rndB03Rz2, (.bin .eq (.var 5) (.un (.wrap .u64) rndB03Rz1)), (.bin .eq (.var 4) (.un (.wrap .u64) (.bin .ediv rndB03Rz1 (.lit 18446744073709551616)))), (.un .bnot (.bin .eq (.bin (.bits .or .u64) (.var 1) (.var 2)) (.lit 0))), (.bin .lt rndB03Rz0 (.lit 0)), (.bin .le (.bin .sub (.lit (-149)) (.var 3)) rndB03Rz0), (.bin .le (.lit (-5000)) (.var 3)), (.bin .le (.var 3) (.lit 5000))], (.int .u64 (.bin (.bits .or .u64) rndB03Rz4 (.bin .emod (.var 5) (.lit 8388608)))))]
set_option maxRecDepth 100000 in
theorem rndB03Ran : runOfG Try.prog (orcs (gOracle gsD03) (orcs (specOracle [longS]) (nameO (specOracle [downS])))) noLoops (bodies fns) [] 4000 rndB03 = some rndB03R := by kernel_rfl
end Go.Proofs.Ytnodelimomljbaa.RunRndB03

/- The reference's round, case B0, in numbers. No condition. -/
namespace Go.Proofs.Ytnodelimomljbaa.PlainRndB03
open Go Go.Sx Go.Sx.Flt Go.Sx.Ref Go.Proofs.Ytnodelimomljbaa.RunRndB03
set_option linter.unusedSimpArgs false
set_option linter.unusedVariables false
set_option maxHeartbeats 1000000 in
theorem plain (u : Nat → Int) (hk : KindOk u 0 rndB03.sp.ks) (hp : pcOk ⟨u, fnG⟩ rndB03.sp.pre) : Keeps ⟨u, fnG⟩ rndB03.sp.res rndB03R := by
  have h1 : 0 ≤ u 1 ∧ u 1 ≤ 18446744073709551615 := of_kind hk.2.1
  have h2 : 0 ≤ u 2 ∧ u 2 ≤ 18446744073709551615 := of_kind hk.2.2.1
  obtain ⟨n, hn⟩ : ∃ n : Nat, u 1 * 18446744073709551616 + u 2 = n := ⟨(u 1 * 18446744073709551616 + u 2).toNat, by omega⟩
  obtain ⟨K, hK⟩ : ∃ K, fnG 0 n 0 0 + -24 = K := ⟨_, rfl⟩
  obtain ⟨R, hR⟩ : ∃ R, fnG 5 n (u 3) 0 = R := ⟨_, rfl⟩
  have hL : fnG 0 n 0 0 = (lenN n : Int) := by simp only [fnG, Int.toNat_natCast]
  have q0 := hp _ (List.mem_cons_self)
  have q1 := hp _ (List.mem_cons_of_mem _ List.mem_cons_self)
  simp only [byA3, byB3, preB3, lenE, f1, nn, w64, v, bi, E.den, Bi.den, b2i_ne, decide_eq_true_eq, hn, hL] at q0 q1
  have q0 : (lenN n : Int) + -24 < 0 := by first | exact of_decide_eq_true q0 | exact q0
  have q1 : -149 - u 3 ≤ (lenN n : Int) + -24 := by first | exact of_decide_eq_true q1 | exact q1
  have hT : 0 ≤ u 3 + K + 149 := by omega
  have h0 : n = 0 → R = 0 := fun h => by rw [← hR]; simp only [fnG, Int.toNat_natCast]; rw [h]; unfold rungOf; simp
  have hn53 : n < 16777216 := by
    have h := lenN_lt n
    have e : (2 : Nat) ^ lenN n ≤ 2 ^ 24 := Nat.pow_le_pow_right (by decide) (by omega)
    have e2 : (2 : Nat) ^ 24 = 16777216 := by decide
    omega
  obtain ⟨k, hk2⟩ : ∃ k : Nat, (0 - K).toNat = k := ⟨_, rfl⟩
  obtain ⟨q, hq⟩ : ∃ q : Nat, q = n * 2 ^ k := ⟨_, rfl⟩
  have F3 : fnG 3 q K 0 = lost q K := by simp only [fnG, Int.toNat_natCast]
  have core : ¬ bitI .or .u64 (u 1) (u 2) = 0 → ∃ M : Nat, fnG 2 q K 0 = (M : Int) ∧ M < 16777216 ∧ (M < 8388608 → u 3 + K + 149 = 0) ∧
      R = min ((u 3 + K + 149) * 8388608 + ((M : Int) + (if lost q K = 1 ∨ (lost q K = 0 ∧ M % 2 = 1) then 1 else 0))) 2139095040 := by
    intro hne
    have hn0 : n ≠ 0 := fun h => hne ((or_null h1 h2).2 (by omega))
    have hr := rung_double3 hn0 (u 3) K (by omega)
    have hR' : R = ((rungOf Ieee.single n (u 3) : Nat) : Int) := by rw [← hR]; simp only [fnG, Int.toNat_natCast]
    rw [hr] at hR'
    rw [hR']
    have e1 : (-K).toNat = k := by omega
    have e2 : K.toNat = 0 := by omega
    have hlq : lost q K = 2 := by unfold lost; rw [if_pos (by omega)]
    refine ⟨q, by simp only [fnG, Int.toNat_natCast, e2, Nat.pow_zero, Nat.div_one], ?_, ?_, ?_⟩
    · rw [hq]
      have h := lenN_lt n
      have h3 : n * 2 ^ k < 2 ^ lenN n * 2 ^ k := Nat.mul_lt_mul_of_pos_right h (Nat.two_pow_pos k)
      rw [← Nat.pow_add] at h3
      have e : (2 : Nat) ^ (lenN n + k) ≤ 2 ^ 24 := Nat.pow_le_pow_right (by decide) (by omega)
      have e3 : (2 : Nat) ^ 24 = 16777216 := by decide
      omega
    · intro hlo
      have h4 : 0 < lenN n := by
        rcases Nat.eq_zero_or_pos (lenN n) with h5 | h5
        · have := lenN_lt n; rw [h5] at this; simp at this; omega
        · exact h5
      rcases Nat.lt_or_ge n (2 ^ (lenN n - 1)) with h | h
      · have := (lenN_le n (lenN n - 1)).2 h
        omega
      · have h3 := Nat.mul_le_mul_right (2 ^ k) h
        rw [← Nat.pow_add, show lenN n - 1 + k = 23 by omega, ← hq] at h3
        have e3 : (2 : Nat) ^ 23 = 8388608 := by decide
        omega
    · rw [e1, e2, ← hq, rne_zero, hlq, if_neg (by omega), Int.add_zero]
  have hS : ∀ hne : ¬ bitI .or .u64 (u 1) (u 2) = 0, 0 + IntKind.u64.wrap (u 2 * 2 ^ (min (0 - K).toNat IntKind.u64.bits)) = (q : Int) := fun hne => by
    obtain ⟨M, f2, hi, _, _⟩ := core hne
    clear core
    have e2 : K.toNat = 0 := by omega
    simp only [fnG, Int.toNat_natCast, e2, Nat.pow_zero, Nat.div_one] at f2
    have hu : u 2 = n := by omega
    rw [hk2, hu, show IntKind.u64.bits = 64 from rfl, Nat.min_eq_left (by omega), u64_wr]
    have : ((n : Int) * 2 ^ k) = ((n * 2 ^ k : Nat) : Int) := by rw [Int.natCast_mul, Int.natCast_pow]; rfl
    rw [this, ← hq]
    omega
  by_cases hor : bitI .or .u64 (u 1) (u 2) = 0
  · simp only [rndB03, rndOf3, rndD3, rndB03R, rndB03Rz0, rndB03Rz1, rndB03Rz2, rndB03Rz3, rndB03Rz4, Keeps, chain, unOne, List.length, SameL, f2, nn, w64, v, bi, un, E.prop, E.den, Bi.den, Un.den, hn, Nat.beq, hK, hR, hor]
    have hz2 := (or_null h1 h2).1 hor
    have hR0 := h0 (by omega)
    by_cases hz : u 0 = 0 <;> simp [hz, b2i, hR0]
  have hS := hS hor
  by_cases hz : u 0 = 0
  · have c1 : (b2i (b2i (u 0 == 0) == 0) ≠ 0) = False := by simp [hz, b2i]
    have c2 : (u 0 ≠ 0) = False := by simp [hz]
    simp only [rndB03, rndOf3, rndD3, rndB03R, rndB03Rz0, rndB03Rz1, rndB03Rz2, rndB03Rz3, rndB03Rz4, Keeps, chain, unOne, List.length, SameL, f2, nn, w64, v, bi, un, E.prop, E.den, Bi.den, Un.den, hn, Nat.beq, c1, c2, if_false, if_true, hK, hR, hS]
    refine ⟨?_, ?_, ?_, ?_, ?_, ?_, ?_, ?_, ?_, ?_, ?_, ?_, ?_, ?_, ?_, ?_, ?_, ?_, ?_, ?_, ?_, trivial⟩
    · intro a1 a2 a3 a4 a5
      have hz2 := (or_null h1 h2).1 a5
      exact ⟨trivial, by rw [h0 (by omega)]; rfl, trivial⟩
    · intro a1 a2 a3 a4 a5 a6 a7 a8 a9 b0 b1
      obtain ⟨M, f2, hi, lo, hr⟩ := core a5
      clear core
      have hu5 : u 5 = M := by rw [a7, f2, u64_wr]; omega
      have hc : lost q K = 1 := by rw [← F3, ← a8, a9]
      rw [if_pos (.inl hc)] at hr
      have hx : IntKind.u64.wrap (u 5 + 1) = (M : Int) + 1 := by rw [hu5, u64_wr]; omega
      obtain ⟨g1, g2, g3, g4, g5⟩ := five3 (s := 0) (I := 2139095040) (by decide) (by decide) (by omega) hT (fun h => lo (by omega)) hr hx (E1 := u 3 + K + 151) (by omega) (E2 := u 3 + K + 150) (by omega)
      exact ⟨trivial, g1 b0 b1, trivial⟩
    · intro a1 a2 a3 a4 a5 a6 a7 a8 a9 b0 b1
      obtain ⟨M, f2, hi, lo, hr⟩ := core a5
      clear core
      have hu5 : u 5 = M := by rw [a7, f2, u64_wr]; omega
      have hc : lost q K = 1 := by rw [← F3, ← a8, a9]
      rw [if_pos (.inl hc)] at hr
      have hx : IntKind.u64.wrap (u 5 + 1) = (M : Int) + 1 := by rw [hu5, u64_wr]; omega
      obtain ⟨g1, g2, g3, g4, g5⟩ := five3 (s := 0) (I := 2139095040) (by decide) (by decide) (by omega) hT (fun h => lo (by omega)) hr hx (E1 := u 3 + K + 151) (by omega) (E2 := u 3 + K + 150) (by omega)
      exact ⟨trivial, g2 b0 b1, trivial⟩
    · intro a1 a2 a3 a4 a5 a6 a7 a8 a9 b0 b1
      obtain ⟨M, f2, hi, lo, hr⟩ := core a5
      clear core
      have hu5 : u 5 = M := by rw [a7, f2, u64_wr]; omega
      have hc : lost q K = 1 := by rw [← F3, ← a8, a9]
      rw [if_pos (.inl hc)] at hr
      have hx : IntKind.u64.wrap (u 5 + 1) = (M : Int) + 1 := by rw [hu5, u64_wr]; omega
      obtain ⟨g1, g2, g3, g4, g5⟩ := five3 (s := 0) (I := 2139095040) (by decide) (by decide) (by omega) hT (fun h => lo (by omega)) hr hx (E1 := u 3 + K + 151) (by omega) (E2 := u 3 + K + 150) (by omega)
      exact ⟨trivial, g3 b0 b1, trivial⟩
    · intro a1 a2 a3 a4 a5 a6 a7 a8 a9 b0 b1 b2
      obtain ⟨M, f2, hi, lo, hr⟩ := core a5
      clear core
      have hu5 : u 5 = M := by rw [a7, f2, u64_wr]; omega
      have hc : lost q K = 1 := by rw [← F3, ← a8, a9]
      rw [if_pos (.inl hc)] at hr
      have hx : IntKind.u64.wrap (u 5 + 1) = (M : Int) + 1 := by rw [hu5, u64_wr]; omega
      obtain ⟨g1, g2, g3, g4, g5⟩ := five3 (s := 0) (I := 2139095040) (by decide) (by decide) (by omega) hT (fun h => lo (by omega)) hr hx (E1 := u 3 + K + 151) (by omega) (E2 := u 3 + K + 150) (by omega)
      exact ⟨trivial, g4 b0 b1 b2, trivial⟩
    · intro a1 a2 a3 a4 a5 a6 a7 a8 a9 b0 b1 b2
      obtain ⟨M, f2, hi, lo, hr⟩ := core a5
      clear core
      have hu5 : u 5 = M := by rw [a7, f2, u64_wr]; omega
      have hc : lost q K = 1 := by rw [← F3, ← a8, a9]
      rw [if_pos (.inl hc)] at hr
      have hx : IntKind.u64.wrap (u 5 + 1) = (M : Int) + 1 := by rw [hu5, u64_wr]; omega
      obtain ⟨g1, g2, g3, g4, g5⟩ := five3 (s := 0) (I := 2139095040) (by decide) (by decide) (by omega) hT (fun h => lo (by omega)) hr hx (E1 := u 3 + K + 151) (by omega) (E2 := u 3 + K + 150) (by omega)
      exact ⟨trivial, g5 b0 b1 b2, trivial⟩
    · intro a1 a2 a3 a4 a5 a6 a7 a8 a9 a10 a11 b0 b1
      obtain ⟨M, f2, hi, lo, hr⟩ := core a5
      clear core
      have hu5 : u 5 = M := by rw [a7, f2, u64_wr]; omega
      have hc : lost q K = 0 := by rw [← F3, ← a8, a10]
      rw [if_pos (.inr ⟨hc, by rw [hu5] at a11; omega⟩)] at hr
      have hx : IntKind.u64.wrap (u 5 + 1) = (M : Int) + 1 := by rw [hu5, u64_wr]; omega
      obtain ⟨g1, g2, g3, g4, g5⟩ := five3 (s := 0) (I := 2139095040) (by decide) (by decide) (by omega) hT (fun h => lo (by omega)) hr hx (E1 := u 3 + K + 151) (by omega) (E2 := u 3 + K + 150) (by omega)
      exact ⟨trivial, g1 b0 b1, trivial⟩
    · intro a1 a2 a3 a4 a5 a6 a7 a8 a9 a10 a11 b0 b1
      obtain ⟨M, f2, hi, lo, hr⟩ := core a5
      clear core
      have hu5 : u 5 = M := by rw [a7, f2, u64_wr]; omega
      have hc : lost q K = 0 := by rw [← F3, ← a8, a10]
      rw [if_pos (.inr ⟨hc, by rw [hu5] at a11; omega⟩)] at hr
      have hx : IntKind.u64.wrap (u 5 + 1) = (M : Int) + 1 := by rw [hu5, u64_wr]; omega
      obtain ⟨g1, g2, g3, g4, g5⟩ := five3 (s := 0) (I := 2139095040) (by decide) (by decide) (by omega) hT (fun h => lo (by omega)) hr hx (E1 := u 3 + K + 151) (by omega) (E2 := u 3 + K + 150) (by omega)
      exact ⟨trivial, g2 b0 b1, trivial⟩
    · intro a1 a2 a3 a4 a5 a6 a7 a8 a9 a10 a11 b0 b1
      obtain ⟨M, f2, hi, lo, hr⟩ := core a5
      clear core
      have hu5 : u 5 = M := by rw [a7, f2, u64_wr]; omega
      have hc : lost q K = 0 := by rw [← F3, ← a8, a10]
      rw [if_pos (.inr ⟨hc, by rw [hu5] at a11; omega⟩)] at hr
      have hx : IntKind.u64.wrap (u 5 + 1) = (M : Int) + 1 := by rw [hu5, u64_wr]; omega
      obtain ⟨g1, g2, g3, g4, g5⟩ := five3 (s := 0) (I := 2139095040) (by decide) (by decide) (by omega) hT (fun h => lo (by omega)) hr hx (E1 := u 3 + K + 151) (by omega) (E2 := u 3 + K + 150) (by omega)
      exact ⟨trivial, g3 b0 b1, trivial⟩
    · intro a1 a2 a3 a4 a5 a6 a7 a8 a9 a10 a11 b0 b1 b2
      obtain ⟨M, f2, hi, lo, hr⟩ := core a5
      clear core
      have hu5 : u 5 = M := by rw [a7, f2, u64_wr]; omega
      have hc : lost q K = 0 := by rw [← F3, ← a8, a10]
      rw [if_pos (.inr ⟨hc, by rw [hu5] at a11; omega⟩)] at hr
      have hx : IntKind.u64.wrap (u 5 + 1) = (M : Int) + 1 := by rw [hu5, u64_wr]; omega
      obtain ⟨g1, g2, g3, g4, g5⟩ := five3 (s := 0) (I := 2139095040) (by decide) (by decide) (by omega) hT (fun h => lo (by omega)) hr hx (E1 := u 3 + K + 151) (by omega) (E2 := u 3 + K + 150) (by omega)
      exact ⟨trivial, g4 b0 b1 b2, trivial⟩
    · intro a1 a2 a3 a4 a5 a6 a7 a8 a9 a10 a11 b0 b1 b2
      obtain ⟨M, f2, hi, lo, hr⟩ := core a5
      clear core
      have hu5 : u 5 = M := by rw [a7, f2, u64_wr]; omega
      have hc : lost q K = 0 := by rw [← F3, ← a8, a10]
      rw [if_pos (.inr ⟨hc, by rw [hu5] at a11; omega⟩)] at hr
      have hx : IntKind.u64.wrap (u 5 + 1) = (M : Int) + 1 := by rw [hu5, u64_wr]; omega
      obtain ⟨g1, g2, g3, g4, g5⟩ := five3 (s := 0) (I := 2139095040) (by decide) (by decide) (by omega) hT (fun h => lo (by omega)) hr hx (E1 := u 3 + K + 151) (by omega) (E2 := u 3 + K + 150) (by omega)
      exact ⟨trivial, g5 b0 b1 b2, trivial⟩
    · intro a1 a2 a3 a4 a5 a6 a7 a8 a9 a10 a11 b0 b1
      obtain ⟨M, f2, hi, lo, hr⟩ := core a5
      clear core
      have hu5 : u 5 = M := by rw [a7, f2, u64_wr]; omega
      have hc : lost q K = 0 := by rw [← F3, ← a8, a10]
      rw [if_neg (by rw [hu5] at a11; omega)] at hr
      have hx : u 5 = (M : Int) + 0 := by rw [hu5]; omega
      obtain ⟨g1, g2, g3, g4, g5⟩ := five3 (s := 0) (I := 2139095040) (by decide) (by decide) (by omega) hT (fun h => lo (by omega)) hr hx (E1 := u 3 + K + 151) (by omega) (E2 := u 3 + K + 150) (by omega)
      exact ⟨trivial, g1 b0 b1, trivial⟩
    · intro a1 a2 a3 a4 a5 a6 a7 a8 a9 a10 a11 b0 b1
      obtain ⟨M, f2, hi, lo, hr⟩ := core a5
      clear core
      have hu5 : u 5 = M := by rw [a7, f2, u64_wr]; omega
      have hc : lost q K = 0 := by rw [← F3, ← a8, a10]
      rw [if_neg (by rw [hu5] at a11; omega)] at hr
      have hx : u 5 = (M : Int) + 0 := by rw [hu5]; omega
      obtain ⟨g1, g2, g3, g4, g5⟩ := five3 (s := 0) (I := 2139095040) (by decide) (by decide) (by omega) hT (fun h => lo (by omega)) hr hx (E1 := u 3 + K + 151) (by omega) (E2 := u 3 + K + 150) (by omega)
      exact ⟨trivial, g2 b0 b1, trivial⟩
    · intro a1 a2 a3 a4 a5 a6 a7 a8 a9 a10 a11 b0 b1
      obtain ⟨M, f2, hi, lo, hr⟩ := core a5
      clear core
      have hu5 : u 5 = M := by rw [a7, f2, u64_wr]; omega
      have hc : lost q K = 0 := by rw [← F3, ← a8, a10]
      rw [if_neg (by rw [hu5] at a11; omega)] at hr
      have hx : u 5 = (M : Int) + 0 := by rw [hu5]; omega
      obtain ⟨g1, g2, g3, g4, g5⟩ := five3 (s := 0) (I := 2139095040) (by decide) (by decide) (by omega) hT (fun h => lo (by omega)) hr hx (E1 := u 3 + K + 151) (by omega) (E2 := u 3 + K + 150) (by omega)
      exact ⟨trivial, g3 b0 b1, trivial⟩
    · intro a1 a2 a3 a4 a5 a6 a7 a8 a9 a10 a11 b0 b1 b2
      obtain ⟨M, f2, hi, lo, hr⟩ := core a5
      clear core
      have hu5 : u 5 = M := by rw [a7, f2, u64_wr]; omega
      have hc : lost q K = 0 := by rw [← F3, ← a8, a10]
      rw [if_neg (by rw [hu5] at a11; omega)] at hr
      have hx : u 5 = (M : Int) + 0 := by rw [hu5]; omega
      obtain ⟨g1, g2, g3, g4, g5⟩ := five3 (s := 0) (I := 2139095040) (by decide) (by decide) (by omega) hT (fun h => lo (by omega)) hr hx (E1 := u 3 + K + 151) (by omega) (E2 := u 3 + K + 150) (by omega)
      exact ⟨trivial, g4 b0 b1 b2, trivial⟩
    · intro a1 a2 a3 a4 a5 a6 a7 a8 a9 a10 a11 b0 b1 b2
      obtain ⟨M, f2, hi, lo, hr⟩ := core a5
      clear core
      have hu5 : u 5 = M := by rw [a7, f2, u64_wr]; omega
      have hc : lost q K = 0 := by rw [← F3, ← a8, a10]
      rw [if_neg (by rw [hu5] at a11; omega)] at hr
      have hx : u 5 = (M : Int) + 0 := by rw [hu5]; omega
      obtain ⟨g1, g2, g3, g4, g5⟩ := five3 (s := 0) (I := 2139095040) (by decide) (by decide) (by omega) hT (fun h => lo (by omega)) hr hx (E1 := u 3 + K + 151) (by omega) (E2 := u 3 + K + 150) (by omega)
      exact ⟨trivial, g5 b0 b1 b2, trivial⟩
    · intro a1 a2 a3 a4 a5 a6 a7 a8 a9 a10 b0 b1
      obtain ⟨M, f2, hi, lo, hr⟩ := core a5
      clear core
      have hu5 : u 5 = M := by rw [a7, f2, u64_wr]; omega
      have hc : ¬ lost q K = 0 ∧ ¬ lost q K = 1 := by rw [← F3, ← a8]; exact ⟨a10, a9⟩
      rw [if_neg (by omega)] at hr
      have hx : u 5 = (M : Int) + 0 := by rw [hu5]; omega
      obtain ⟨g1, g2, g3, g4, g5⟩ := five3 (s := 0) (I := 2139095040) (by decide) (by decide) (by omega) hT (fun h => lo (by omega)) hr hx (E1 := u 3 + K + 151) (by omega) (E2 := u 3 + K + 150) (by omega)
      exact ⟨trivial, g1 b0 b1, trivial⟩
    · intro a1 a2 a3 a4 a5 a6 a7 a8 a9 a10 b0 b1
      obtain ⟨M, f2, hi, lo, hr⟩ := core a5
      clear core
      have hu5 : u 5 = M := by rw [a7, f2, u64_wr]; omega
      have hc : ¬ lost q K = 0 ∧ ¬ lost q K = 1 := by rw [← F3, ← a8]; exact ⟨a10, a9⟩
      rw [if_neg (by omega)] at hr
      have hx : u 5 = (M : Int) + 0 := by rw [hu5]; omega
      obtain ⟨g1, g2, g3, g4, g5⟩ := five3 (s := 0) (I := 2139095040) (by decide) (by decide) (by omega) hT (fun h => lo (by omega)) hr hx (E1 := u 3 + K + 151) (by omega) (E2 := u 3 + K + 150) (by omega)
      exact ⟨trivial, g2 b0 b1, trivial⟩
    · intro a1 a2 a3 a4 a5 a6 a7 a8 a9 a10 b0 b1
      obtain ⟨M, f2, hi, lo, hr⟩ := core a5
      clear core
      have hu5 : u 5 = M := by rw [a7, f2, u64_wr]; omega
      have hc : ¬ lost q K = 0 ∧ ¬ lost q K = 1 := by rw [← F3, ← a8]; exact ⟨a10, a9⟩
      rw [if_neg (by omega)] at hr
      have hx : u 5 = (M : Int) + 0 := by rw [hu5]; omega
      obtain ⟨g1, g2, g3, g4, g5⟩ := five3 (s := 0) (I := 2139095040) (by decide) (by decide) (by omega) hT (fun h => lo (by omega)) hr hx (E1 := u 3 + K + 151) (by omega) (E2 := u 3 + K + 150) (by omega)
      exact ⟨trivial, g3 b0 b1, trivial⟩
    · intro a1 a2 a3 a4 a5 a6 a7 a8 a9 a10 b0 b1 b2
      obtain ⟨M, f2, hi, lo, hr⟩ := core a5
      clear core
      have hu5 : u 5 = M := by rw [a7, f2, u64_wr]; omega
      have hc : ¬ lost q K = 0 ∧ ¬ lost q K = 1 := by rw [← F3, ← a8]; exact ⟨a10, a9⟩
      rw [if_neg (by omega)] at hr
      have hx : u 5 = (M : Int) + 0 := by rw [hu5]; omega
      obtain ⟨g1, g2, g3, g4, g5⟩ := five3 (s := 0) (I := 2139095040) (by decide) (by decide) (by omega) hT (fun h => lo (by omega)) hr hx (E1 := u 3 + K + 151) (by omega) (E2 := u 3 + K + 150) (by omega)
      exact ⟨trivial, g4 b0 b1 b2, trivial⟩
    · intro a1 a2 a3 a4 a5 a6 a7 a8 a9 a10 b0 b1 b2
      obtain ⟨M, f2, hi, lo, hr⟩ := core a5
      clear core
      have hu5 : u 5 = M := by rw [a7, f2, u64_wr]; omega
      have hc : ¬ lost q K = 0 ∧ ¬ lost q K = 1 := by rw [← F3, ← a8]; exact ⟨a10, a9⟩
      rw [if_neg (by omega)] at hr
      have hx : u 5 = (M : Int) + 0 := by rw [hu5]; omega
      obtain ⟨g1, g2, g3, g4, g5⟩ := five3 (s := 0) (I := 2139095040) (by decide) (by decide) (by omega) hT (fun h => lo (by omega)) hr hx (E1 := u 3 + K + 151) (by omega) (E2 := u 3 + K + 150) (by omega)
      exact ⟨trivial, g5 b0 b1 b2, trivial⟩
  · have c1 : (b2i (b2i (u 0 == 0) == 0) ≠ 0) = True := by simp [hz, b2i]
    have c2 : (u 0 ≠ 0) = True := by simp [hz]
    simp only [rndB03, rndOf3, rndD3, rndB03R, rndB03Rz0, rndB03Rz1, rndB03Rz2, rndB03Rz3, rndB03Rz4, Keeps, chain, unOne, List.length, SameL, f2, nn, w64, v, bi, un, E.prop, E.den, Bi.den, Un.den, hn, Nat.beq, c1, c2, if_false, if_true, hK, hR, hS]
    refine ⟨?_, ?_, ?_, ?_, ?_, ?_, ?_, ?_, ?_, ?_, ?_, ?_, ?_, ?_, ?_, ?_, ?_, ?_, ?_, ?_, ?_, trivial⟩
    · intro a1 a2 a3 a4 a5
      have hz2 := (or_null h1 h2).1 a5
      exact ⟨trivial, by rw [h0 (by omega)]; rfl, trivial⟩
    · intro a1 a2 a3 a4 a5 a6 a7 a8 a9 b0 b1
      obtain ⟨M, f2, hi, lo, hr⟩ := core a5
      clear core
      have hu5 : u 5 = M := by rw [a7, f2, u64_wr]; omega
      have hc : lost q K = 1 := by rw [← F3, ← a8, a9]
      rw [if_pos (.inl hc)] at hr
      have hx : IntKind.u64.wrap (u 5 + 1) = (M : Int) + 1 := by rw [hu5, u64_wr]; omega
      obtain ⟨g1, g2, g3, g4, g5⟩ := five3 (s := 2147483648) (I := 4286578688) (by decide) (by decide) (by omega) hT (fun h => lo (by omega)) hr hx (E1 := u 3 + K + 151) (by omega) (E2 := u 3 + K + 150) (by omega)
      exact ⟨trivial, g1 b0 b1, trivial⟩
    · intro a1 a2 a3 a4 a5 a6 a7 a8 a9 b0 b1
      obtain ⟨M, f2, hi, lo, hr⟩ := core a5
      clear core
      have hu5 : u 5 = M := by rw [a7, f2, u64_wr]; omega
      have hc : lost q K = 1 := by rw [← F3, ← a8, a9]
      rw [if_pos (.inl hc)] at hr
      have hx : IntKind.u64.wrap (u 5 + 1) = (M : Int) + 1 := by rw [hu5, u64_wr]; omega
      obtain ⟨g1, g2, g3, g4, g5⟩ := five3 (s := 2147483648) (I := 4286578688) (by decide) (by decide) (by omega) hT (fun h => lo (by omega)) hr hx (E1 := u 3 + K + 151) (by omega) (E2 := u 3 + K + 150) (by omega)
      exact ⟨trivial, g2 b0 b1, trivial⟩
    · intro a1 a2 a3 a4 a5 a6 a7 a8 a9 b0 b1
      obtain ⟨M, f2, hi, lo, hr⟩ := core a5
      clear core
      have hu5 : u 5 = M := by rw [a7, f2, u64_wr]; omega
      have hc : lost q K = 1 := by rw [← F3, ← a8, a9]
      rw [if_pos (.inl hc)] at hr
      have hx : IntKind.u64.wrap (u 5 + 1) = (M : Int) + 1 := by rw [hu5, u64_wr]; omega
      obtain ⟨g1, g2, g3, g4, g5⟩ := five3 (s := 2147483648) (I := 4286578688) (by decide) (by decide) (by omega) hT (fun h => lo (by omega)) hr hx (E1 := u 3 + K + 151) (by omega) (E2 := u 3 + K + 150) (by omega)
      exact ⟨trivial, g3 b0 b1, trivial⟩
    · intro a1 a2 a3 a4 a5 a6 a7 a8 a9 b0 b1 b2
      obtain ⟨M, f2, hi, lo, hr⟩ := core a5
      clear core
      have hu5 : u 5 = M := by rw [a7, f2, u64_wr]; omega
      have hc : lost q K = 1 := by rw [← F3, ← a8, a9]
      rw [if_pos (.inl hc)] at hr
      have hx : IntKind.u64.wrap (u 5 + 1) = (M : Int) + 1 := by rw [hu5, u64_wr]; omega
      obtain ⟨g1, g2, g3, g4, g5⟩ := five3 (s := 2147483648) (I := 4286578688) (by decide) (by decide) (by omega) hT (fun h => lo (by omega)) hr hx (E1 := u 3 + K + 151) (by omega) (E2 := u 3 + K + 150) (by omega)
      exact ⟨trivial, g4 b0 b1 b2, trivial⟩
    · intro a1 a2 a3 a4 a5 a6 a7 a8 a9 b0 b1 b2
      obtain ⟨M, f2, hi, lo, hr⟩ := core a5
      clear core
      have hu5 : u 5 = M := by rw [a7, f2, u64_wr]; omega
      have hc : lost q K = 1 := by rw [← F3, ← a8, a9]
      rw [if_pos (.inl hc)] at hr
      have hx : IntKind.u64.wrap (u 5 + 1) = (M : Int) + 1 := by rw [hu5, u64_wr]; omega
      obtain ⟨g1, g2, g3, g4, g5⟩ := five3 (s := 2147483648) (I := 4286578688) (by decide) (by decide) (by omega) hT (fun h => lo (by omega)) hr hx (E1 := u 3 + K + 151) (by omega) (E2 := u 3 + K + 150) (by omega)
      exact ⟨trivial, g5 b0 b1 b2, trivial⟩
    · intro a1 a2 a3 a4 a5 a6 a7 a8 a9 a10 a11 b0 b1
      obtain ⟨M, f2, hi, lo, hr⟩ := core a5
      clear core
      have hu5 : u 5 = M := by rw [a7, f2, u64_wr]; omega
      have hc : lost q K = 0 := by rw [← F3, ← a8, a10]
      rw [if_pos (.inr ⟨hc, by rw [hu5] at a11; omega⟩)] at hr
      have hx : IntKind.u64.wrap (u 5 + 1) = (M : Int) + 1 := by rw [hu5, u64_wr]; omega
      obtain ⟨g1, g2, g3, g4, g5⟩ := five3 (s := 2147483648) (I := 4286578688) (by decide) (by decide) (by omega) hT (fun h => lo (by omega)) hr hx (E1 := u 3 + K + 151) (by omega) (E2 := u 3 + K + 150) (by omega)
      exact ⟨trivial, g1 b0 b1, trivial⟩
    · intro a1 a2 a3 a4 a5 a6 a7 a8 a9 a10 a11 b0 b1
      obtain ⟨M, f2, hi, lo, hr⟩ := core a5
      clear core
      have hu5 : u 5 = M := by rw [a7, f2, u64_wr]; omega
      have hc : lost q K = 0 := by rw [← F3, ← a8, a10]
      rw [if_pos (.inr ⟨hc, by rw [hu5] at a11; omega⟩)] at hr
      have hx : IntKind.u64.wrap (u 5 + 1) = (M : Int) + 1 := by rw [hu5, u64_wr]; omega
      obtain ⟨g1, g2, g3, g4, g5⟩ := five3 (s := 2147483648) (I := 4286578688) (by decide) (by decide) (by omega) hT (fun h => lo (by omega)) hr hx (E1 := u 3 + K + 151) (by omega) (E2 := u 3 + K + 150) (by omega)
      exact ⟨trivial, g2 b0 b1, trivial⟩
    · intro a1 a2 a3 a4 a5 a6 a7 a8 a9 a10 a11 b0 b1
      obtain ⟨M, f2, hi, lo, hr⟩ := core a5
      clear core
      have hu5 : u 5 = M := by rw [a7, f2, u64_wr]; omega
      have hc : lost q K = 0 := by rw [← F3, ← a8, a10]
      rw [if_pos (.inr ⟨hc, by rw [hu5] at a11; omega⟩)] at hr
      have hx : IntKind.u64.wrap (u 5 + 1) = (M : Int) + 1 := by rw [hu5, u64_wr]; omega
      obtain ⟨g1, g2, g3, g4, g5⟩ := five3 (s := 2147483648) (I := 4286578688) (by decide) (by decide) (by omega) hT (fun h => lo (by omega)) hr hx (E1 := u 3 + K + 151) (by omega) (E2 := u 3 + K + 150) (by omega)
      exact ⟨trivial, g3 b0 b1, trivial⟩
    · intro a1 a2 a3 a4 a5 a6 a7 a8 a9 a10 a11 b0 b1 b2
      obtain ⟨M, f2, hi, lo, hr⟩ := core a5
      clear core
      have hu5 : u 5 = M := by rw [a7, f2, u64_wr]; omega
      have hc : lost q K = 0 := by rw [← F3, ← a8, a10]
      rw [if_pos (.inr ⟨hc, by rw [hu5] at a11; omega⟩)] at hr
      have hx : IntKind.u64.wrap (u 5 + 1) = (M : Int) + 1 := by rw [hu5, u64_wr]; omega
      obtain ⟨g1, g2, g3, g4, g5⟩ := five3 (s := 2147483648) (I := 4286578688) (by decide) (by decide) (by omega) hT (fun h => lo (by omega)) hr hx (E1 := u 3 + K + 151) (by omega) (E2 := u 3 + K + 150) (by omega)
      exact ⟨trivial, g4 b0 b1 b2, trivial⟩
    · intro a1 a2 a3 a4 a5 a6 a7 a8 a9 a10 a11 b0 b1 b2
      obtain ⟨M, f2, hi, lo, hr⟩ := core a5
      clear core
      have hu5 : u 5 = M := by rw [a7, f2, u64_wr]; omega
      have hc : lost q K = 0 := by rw [← F3, ← a8, a10]
      rw [if_pos (.inr ⟨hc, by rw [hu5] at a11; omega⟩)] at hr
      have hx : IntKind.u64.wrap (u 5 + 1) = (M : Int) + 1 := by rw [hu5, u64_wr]; omega
      obtain ⟨g1, g2, g3, g4, g5⟩ := five3 (s := 2147483648) (I := 4286578688) (by decide) (by decide) (by omega) hT (fun h => lo (by omega)) hr hx (E1 := u 3 + K + 151) (by omega) (E2 := u 3 + K + 150) (by omega)
      exact ⟨trivial, g5 b0 b1 b2, trivial⟩
    · intro a1 a2 a3 a4 a5 a6 a7 a8 a9 a10 a11 b0 b1
      obtain ⟨M, f2, hi, lo, hr⟩ := core a5
      clear core
      have hu5 : u 5 = M := by rw [a7, f2, u64_wr]; omega
      have hc : lost q K = 0 := by rw [← F3, ← a8, a10]
      rw [if_neg (by rw [hu5] at a11; omega)] at hr
      have hx : u 5 = (M : Int) + 0 := by rw [hu5]; omega
      obtain ⟨g1, g2, g3, g4, g5⟩ := five3 (s := 2147483648) (I := 4286578688) (by decide) (by decide) (by omega) hT (fun h => lo (by omega)) hr hx (E1 := u 3 + K + 151) (by omega) (E2 := u 3 + K + 150) (by omega)
      exact ⟨trivial, g1 b0 b1, trivial⟩
    · intro a1 a2 a3 a4 a5 a6 a7 a8 a9 a10 a11 b0 b1
      obtain ⟨M, f2, hi, lo, hr⟩ := core a5
      clear core
      have hu5 : u 5 = M := by rw [a7, f2, u64_wr]; omega
      have hc : lost q K = 0 := by rw [← F3, ← a8, a10]
      rw [if_neg (by rw [hu5] at a11; omega)] at hr
      have hx : u 5 = (M : Int) + 0 := by rw [hu5]; omega
      obtain ⟨g1, g2, g3, g4, g5⟩ := five3 (s := 2147483648) (I := 4286578688) (by decide) (by decide) (by omega) hT (fun h => lo (by omega)) hr hx (E1 := u 3 + K + 151) (by omega) (E2 := u 3 + K + 150) (by omega)
      exact ⟨trivial, g2 b0 b1, trivial⟩
    · intro a1 a2 a3 a4 a5 a6 a7 a8 a9 a10 a11 b0 b1
      obtain ⟨M, f2, hi, lo, hr⟩ := core a5
      clear core
      have hu5 : u 5 = M := by rw [a7, f2, u64_wr]; omega
      have hc : lost q K = 0 := by rw [← F3, ← a8, a10]
      rw [if_neg (by rw [hu5] at a11; omega)] at hr
      have hx : u 5 = (M : Int) + 0 := by rw [hu5]; omega
      obtain ⟨g1, g2, g3, g4, g5⟩ := five3 (s := 2147483648) (I := 4286578688) (by decide) (by decide) (by omega) hT (fun h => lo (by omega)) hr hx (E1 := u 3 + K + 151) (by omega) (E2 := u 3 + K + 150) (by omega)
      exact ⟨trivial, g3 b0 b1, trivial⟩
    · intro a1 a2 a3 a4 a5 a6 a7 a8 a9 a10 a11 b0 b1 b2
      obtain ⟨M, f2, hi, lo, hr⟩ := core a5
      clear core
      have hu5 : u 5 = M := by rw [a7, f2, u64_wr]; omega
      have hc : lost q K = 0 := by rw [← F3, ← a8, a10]
      rw [if_neg (by rw [hu5] at a11; omega)] at hr
      have hx : u 5 = (M : Int) + 0 := by rw [hu5]; omega
      obtain ⟨g1, g2, g3, g4, g5⟩ := five3 (s := 2147483648) (I := 4286578688) (by decide) (by decide) (by omega) hT (fun h => lo (by omega)) hr hx (E1 := u 3 + K + 151) (by omega) (E2 := u 3 + K + 150) (by omega)
      exact ⟨trivial, g4 b0 b1 b2, trivial⟩
    · intro a1 a2 a3 a4 a5 a6 a7 a8 a9 a10 a11 b0 b1 b2
      obtain ⟨M, f2, hi, lo, hr⟩ := core a5
      clear core
      have hu5 : u 5 = M := by rw [a7, f2, u64_wr]; omega
      have hc : lost q K = 0 := by rw [← F3, ← a8, a10]
      rw [if_neg (by rw [hu5] at a11; omega)] at hr
      have hx : u 5 = (M : Int) + 0 := by rw [hu5]; omega
      obtain ⟨g1, g2, g3, g4, g5⟩ := five3 (s := 2147483648) (I := 4286578688) (by decide) (by decide) (by omega) hT (fun h => lo (by omega)) hr hx (E1 := u 3 + K + 151) (by omega) (E2 := u 3 + K + 150) (by omega)
      exact ⟨trivial, g5 b0 b1 b2, trivial⟩
    · intro a1 a2 a3 a4 a5 a6 a7 a8 a9 a10 b0 b1
      obtain ⟨M, f2, hi, lo, hr⟩ := core a5
      clear core
      have hu5 : u 5 = M := by rw [a7, f2, u64_wr]; omega
      have hc : ¬ lost q K = 0 ∧ ¬ lost q K = 1 := by rw [← F3, ← a8]; exact ⟨a10, a9⟩
      rw [if_neg (by omega)] at hr
      have hx : u 5 = (M : Int) + 0 := by rw [hu5]; omega
      obtain ⟨g1, g2, g3, g4, g5⟩ := five3 (s := 2147483648) (I := 4286578688) (by decide) (by decide) (by omega) hT (fun h => lo (by omega)) hr hx (E1 := u 3 + K + 151) (by omega) (E2 := u 3 + K + 150) (by omega)
      exact ⟨trivial, g1 b0 b1, trivial⟩
    · intro a1 a2 a3 a4 a5 a6 a7 a8 a9 a10 b0 b1
      obtain ⟨M, f2, hi, lo, hr⟩ := core a5
      clear core
      have hu5 : u 5 = M := by rw [a7, f2, u64_wr]; omega
      have hc : ¬ lost q K = 0 ∧ ¬ lost q K = 1 := by rw [← F3, ← a8]; exact ⟨a10, a9⟩
      rw [if_neg (by omega)] at hr
      have hx : u 5 = (M : Int) + 0 := by rw [hu5]; omega
      obtain ⟨g1, g2, g3, g4, g5⟩ := five3 (s := 2147483648) (I := 4286578688) (by decide) (by decide) (by omega) hT (fun h => lo (by omega)) hr hx (E1 := u 3 + K + 151) (by omega) (E2 := u 3 + K + 150) (by omega)
      exact ⟨trivial, g2 b0 b1, trivial⟩
    · intro a1 a2 a3 a4 a5 a6 a7 a8 a9 a10 b0 b1
      obtain ⟨M, f2, hi, lo, hr⟩ := core a5
      clear core
      have hu5 : u 5 = M := by rw [a7, f2, u64_wr]; omega
      have hc : ¬ lost q K = 0 ∧ ¬ lost q K = 1 := by rw [← F3, ← a8]; exact ⟨a10, a9⟩
      rw [if_neg (by omega)] at hr
      have hx : u 5 = (M : Int) + 0 := by rw [hu5]; omega
      obtain ⟨g1, g2, g3, g4, g5⟩ := five3 (s := 2147483648) (I := 4286578688) (by decide) (by decide) (by omega) hT (fun h => lo (by omega)) hr hx (E1 := u 3 + K + 151) (by omega) (E2 := u 3 + K + 150) (by omega)
      exact ⟨trivial, g3 b0 b1, trivial⟩
    · intro a1 a2 a3 a4 a5 a6 a7 a8 a9 a10 b0 b1 b2
      obtain ⟨M, f2, hi, lo, hr⟩ := core a5
      clear core
      have hu5 : u 5 = M := by rw [a7, f2, u64_wr]; omega
      have hc : ¬ lost q K = 0 ∧ ¬ lost q K = 1 := by rw [← F3, ← a8]; exact ⟨a10, a9⟩
      rw [if_neg (by omega)] at hr
      have hx : u 5 = (M : Int) + 0 := by rw [hu5]; omega
      obtain ⟨g1, g2, g3, g4, g5⟩ := five3 (s := 2147483648) (I := 4286578688) (by decide) (by decide) (by omega) hT (fun h => lo (by omega)) hr hx (E1 := u 3 + K + 151) (by omega) (E2 := u 3 + K + 150) (by omega)
      exact ⟨trivial, g4 b0 b1 b2, trivial⟩
    · intro a1 a2 a3 a4 a5 a6 a7 a8 a9 a10 b0 b1 b2
      obtain ⟨M, f2, hi, lo, hr⟩ := core a5
      clear core
      have hu5 : u 5 = M := by rw [a7, f2, u64_wr]; omega
      have hc : ¬ lost q K = 0 ∧ ¬ lost q K = 1 := by rw [← F3, ← a8]; exact ⟨a10, a9⟩
      rw [if_neg (by omega)] at hr
      have hx : u 5 = (M : Int) + 0 := by rw [hu5]; omega
      obtain ⟨g1, g2, g3, g4, g5⟩ := five3 (s := 2147483648) (I := 4286578688) (by decide) (by decide) (by omega) hT (fun h => lo (by omega)) hr hx (E1 := u 3 + K + 151) (by omega) (E2 := u 3 + K + 150) (by omega)
      exact ⟨trivial, g5 b0 b1 b2, trivial⟩
end Go.Proofs.Ytnodelimomljbaa.PlainRndB03

/- The ways of the reference's single floats through numbers, and that the code takes no other. No condition. -/
namespace Go.Proofs.Ytnodelimomljbaa.RunRndB13
open Go Go.Sx Go.Sx.Flt Go.Sx.Ref

def rndB13Rz0 : E := (.bin .add (.fn 0 (.bin .add (.bin .mul (.var 1) (.lit 18446744073709551616)) (.var 2)) (.lit 0) (.lit 0)) (.lit (-24)))
def rndB13Rz1 : E := (.fn 2 (.bin .add (.bin .mul (.var 1) (.lit 18446744073709551616)) (.var 2)) rndB13Rz0 (.lit 0))
def rndB13Rz2 : E := (.bin .eq (.var 6) (.fn 3 (.bin .add (.bin .mul (.var 1) (.lit 18446744073709551616)) (.var 2)) rndB13Rz0 (.lit 0)))
def rndB13Rz3 : E := (.bin (.bits .or .u64) (.ite (.un .bnot (.un .bnot (.var 0))) (.lit 2147483648) (.lit 0)) (.un (.wrap .u64) (.bin .mul (.un (.wrap .u64) (.bin .add (.bin .add (.var 3) rndB13Rz0) (.lit 151))) (.lit 8388608))))
def rndB13Rz4 : E := (.bin (.bits .or .u64) (.ite (.un .bnot (.un .bnot (.var 0))) (.lit 2147483648) (.lit 0)) (.un (.wrap .u64) (.bin .mul (.un (.wrap .u64) (.bin .add (.bin .add (.var 3) rndB13Rz0) (.lit 150))) (.lit 8388608))))
def rndB13R : List Leaf := [
  ([(.bin .eq (.bin (.bits .or .u64) (.var 1) (.var 2)) (.lit 0)), (.bin .le (.lit 0) rndB13Rz0), (.bin .le (.bin .sub (.lit (-149)) (.var 3)) rndB13Rz0), (.bin .le (.lit (-5000)) (.var 3)), (.bin .le (.var 3) (.lit 5000))], (.int .u64 (.ite (.un .bnot (.un .bnot (.var 0))) (.lit 2147483648) (.lit 0)))),
  ([(.bin .le (.lit 255) (.bin .add (.bin .add (.var 3) rndB13Rz0) (.lit 151))), (.bin .eq (.un (.wrap .u64) (.bin .add (.var 5) (.lit 1))) (.lit 16777216)), (.bin .eq (.var 6) (.lit 1)), rndB13Rz2, (.bin .eq (.var 5) (.un (.wrap .u64) rndB13Rz1)), (.bin .eq (.var 4) (.un (.wrap .u64) (.bin .ediv rndB13Rz1 (.lit 18446744073709551616)))), (.un .bnot (.bin .eq (.bin (.bits .or .u64) (.var 1) (.var 2)) (.lit 0))), (.bin .le (.lit 0) rndB13Rz0), (.bin .le (.bin .sub (.lit (-149)) (.var 3)) rndB13Rz0), (.bin .le (.lit (-5000)) (.var 3)), (.bin .le (.var 3) (.lit 5000))], (.int .u64 (.ite (.un .bnot (.un .bnot (.var 0))) (.lit 4286578688) (.lit 2139095040)))),
  ([(.bin .lt (.bin .add (.bin .add (.var 3) rndB13Rz0) (.lit 151)) (.lit 255)), (.bin .eq (.un (.wrap .u64) (.bin .add (.var 5) (.lit 1))) (.lit 16777216)), (.bin .eq (.var 6) (.lit 1)), rndB13Rz2, (.bin .eq (.var 5) (.un (.wrap .u64) rndB13Rz1)), (.bin .eq (.var 4) (.un (.wrap .u64) (.bin .ediv rndB13Rz1 (.lit 18446744073709551616)))), (.un .bnot (.bin .eq (.bin (.bits .or .u64) (.var 1) (.var 2)) (.lit 0))), (.bin .le (.lit 0) rndB13Rz0), (.bin .le (.bin .sub (.lit (-149)) (.var 3)) rndB13Rz0), (.bin .le (.lit (-5000)) (.var 3)), (.bin .le (.var 3) (.lit 5000))], (.int .u64 (.bin (.bits .or .u64) rndB13Rz3 (.bin .emod (.bin .ediv (.un (.wrap .u64) (.bin .add (.var 5) (.lit 1))) (.lit 2)) (.lit 8388608))))),
  ([(.bin .lt (.un (.wrap .u64) (.bin .add (.var 5) (.lit 1))) (.lit 8388608)), (.un .bnot (.bin .eq (.un (.wrap .u64) (.bin .add (.var 5) (.lit 1))) (.lit 16777216))), (.bin .eq (.var 6) (.lit 1)), rndB13Rz2, (.bin .eq (.var 5) (.un (.wrap .u64) rndB13Rz1)), (.bin .eq (.var 4) (.un (.wrap .u64) (.bin .ediv rndB13Rz1 (.lit 18446744073709551616)))), (.un .bnot (.bin .eq (.bin (.bits .or .u64) (.var 1) (.var 2)) (.lit 0))), (.bin .le (.lit 0) rndB13Rz0), (.bin .le (.bin .sub (.lit (-149)) (.var 3)) rndB13Rz0), (.bin .le (.lit (-5000)) (.var 3)), (.bin .le (.var 3) (.lit 5000))], (.int .u64 (.bin (.bits .or .u64) (.ite (.un .bnot (.un .bnot (.var 0))) (.lit 2147483648) (.lit 0)) (.un (.wrap .u64) (.bin .add (.var 5) (.lit 1)))))),
  ([(.bin .le (.lit 255) (.bin .add (.bin .add (.var 3) rndB13Rz0) (.lit 150))), (.bin .le (.lit 8388608) (.un (.wrap .u64) (.bin .add (.var 5) (.lit 1)))), (.un .bnot (.bin .eq (.un (.wrap .u64) (.bin .add (.var 5) (.lit 1))) (.lit 16777216))), (.bin .eq (.var 6) (.lit 1)), rndB13Rz2, (.bin .eq (.var 5) (.un (.wrap .u64) rndB13Rz1)), (.bin .eq (.var 4) (.un (.wrap .u64) (.bin .ediv rndB13Rz1 (.lit 18446744073709551616)))), (.un .bnot (.bin .eq (.bin (.bits .or .u64) (.var 1) (.var 2)) (.lit 0))), (.bin .le (.lit 0) rndB13Rz0), (.bin .le (.bin .sub (.lit (-149)) (.var 3)) rndB13Rz0), (.bin .le (.lit (-5000)) (.var 3)), (.bin .le (.var 3) (.lit 5000))], (.int .u64 (.ite (.un .bnot (.un .bnot (.var 0))) (.lit 4286578688) (.lit 2139095040)))),
  ([(.bin .lt (.bin .add (.bin .add (.var 3) rndB13Rz0) (.lit 150)) (.lit 255)), (.bin .le (.lit 8388608) (.un (.wrap .u64) (.bin .add (.var 5) (.lit 1)))), (.un .bnot (.bin .eq (.un (.wrap .u64) (.bin .add (.var 5) (.lit 1))) (.lit 16777216))), (.bin .eq (.var 6) (.lit 1)), rndB13Rz2, (.bin .eq (.var 5) (.un (.wrap .u64) rndB13Rz1)), (.bin .eq (.var 4) (.un (.wrap .u64) (.bin .ediv rndB13Rz1 (.lit 18446744073709551616)))), (.un .bnot (.bin .eq (.bin (.bits .or .u64) (.var 1) (.var 2)) (.lit 0))), (.bin .le (.lit 0) rndB13Rz0), (.bin .le (.bin .sub (.lit (-149)) (.var 3)) rndB13Rz0), (.bin .le (.lit (-5000)) (.var 3)), (.bin .le (.var 3) (.lit 5000))], (.int .u64 (.bin (.bits .or .u64) rndB13Rz4 (.bin .emod (.un (.wrap .u64) (.bin .add (.var 5) (.lit 1))) (.lit 8388608))))),
  ([(.bin .le (.lit 255) (.bin .add (.bin .add (.var 3) rndB13Rz0) (.lit 151))), (.bin .eq (.un (.wrap .u64) (.bin .add (.var 5) (.lit 1))) (.lit 16777216)), (.bin .eq (.bin .emod (.var 5) (.lit 2)) (.lit 1)), (.bin .eq (.var 6) (.lit 0)), (.un .bnot (.bin .eq (.var 6) (.lit 1))), rndB13Rz2, (.bin .eq (.var 5) (.un (.wrap .u64) rndB13Rz1)), (.bin .eq (.var 4) (.un (.wrap .u64) (.bin .ediv rndB13Rz1 (.lit 18446744073709551616)))), (.un .bnot (.bin .eq (.bin (.bits .or .u64) (.var 1) (.var 2)) (.lit 0))), (.bin .le (.lit 0) rndB13Rz0), (.bin .le (.bin .sub (.lit (-149)) (.var 3)) rndB13Rz0), (.bin .le (.lit (-5000)) (.var 3)), (.bin .le (.var 3) (.lit 5000))], (.int .u64 (.ite (.un .bnot (.un .bnot (.var 0))) (.lit 4286578688) (.lit 2139095040)))),
  ([(.bin .lt (.bin .add (.bin .add (.var 3) rndB13Rz0) (.lit 151)) (.lit 255)), (.bin .eq (.un (.wrap .u64) (.bin .add (.var 5) (.lit 1))) (.lit 16777216)), (.bin .eq (.bin .emod (.var 5) (.lit 2)) (.lit 1)), (.bin .eq (.var 6) (.lit 0)), (.un .bnot (.bin .eq (.var 6) (.lit 1))), rndB13Rz2, (.bin .eq (.var 5) (.un (.wrap .u64) rndB13Rz1)), (.bin .eq (.var 4) (.un (.wrap .u64) (.bin .ediv rndB13Rz1 (.lit 18446744073709551616)))), (.un .bnot (.bin .eq (.bin (.bits .or .u64) (.var 1) (.var 2)) (.lit 0))), (.bin .le (.lit 0) rndB13Rz0), (.bin .le (.bin .sub (.lit (-149)) (.var 3)) rndB13Rz0), (.bin .le (.lit (-5000)) (.var 3)), (.bin .le (.var 3) (.lit 5000))], (.int .u64 (.bin (.bits .or .u64) rndB13Rz3 (.bin .emod (.bin .ediv (.un (.wrap .u64) (.bin .add (.var 5) (.lit 1))) (.lit 2)) (.lit 8388608))))),
  ([(.bin .lt (.un (.wrap .u64) (.bin .add (.var 5) (.lit 1))) (.lit 8388608)), (.un .bnot (.bin .eq (.un (.wrap .u64) (.bin .add (.var 5) (.lit 1))) (.lit 16777216))), (.bin .eq (.bin .emod (.var 5) (.lit 2)) (.lit 1)), (.bin .eq (.var 6) (.lit 0)), (.un .bnot (.bin .eq (.var 6) (.lit 1))), rndB13Rz2, (.bin .eq (.var 5) (.un (.wrap .u64) rndB13Rz1)), (.bin .eq (.var 4) (.un (.wrap .u64) (.bin .ediv rndB13Rz1 (.lit 18446744073709551616)))), (.un .bnot (.bin .eq (.bin (.bits .or .u64) (.var 1) (.var 2)) (.lit 0))), (.bin .le (.lit 0) rndB13Rz0), (.bin .le (.bin .sub (.lit (-149)) (.var 3)) rndB13Rz0), (.bin .le (.lit (-5000)) (.var 3)), (.bin .le (.var 3) (.lit 5000))], (.int .u64 (.bin (.bits .or .u64) (.ite (.un .bnot (.un .bnot (.var 0))) (.lit 2147483648) (.lit 0)) (.un (.wrap .u64) (.bin .add (.var 5) (.lit 1)))))),
  ([(.bin .le (.lit 255) (.bin .add (.bin .add (.var 3) rndB13Rz0) (.lit 150))), (.bin .le (.lit 8388608) (.un (.wrap .u64) (.bin .add (.var 5) (.lit 1)))), (.un .bnot (.bin .eq (.un (.wrap .u64) (.bin .add (.var 5) (.lit 1))) (.lit 16777216))), (.bin .eq (.bin .emod (.var 5) (.lit 2)) (.lit 1)), (.bin .eq (.var 6) (.lit 0)), (.un .bnot (.bin .eq (.var 6) (.lit 1))), rndB13Rz2, (.bin .eq (.var 5) (.un (.wrap .u64) rndB13Rz1)), (.bin .eq (.var 4) (.un (.wrap .u64) (.bin .ediv rndB13Rz1 (.lit 18446744073709551616)))), (.un .bnot (.bin .eq (.bin (.bits .or .u64) (.var 1) (.var 2)) (.lit 0))), (.bin .le (.lit 0) rndB13Rz0), (.bin .le (.bin .sub (.lit (-149)) (.var 3)) rndB13Rz0), (.bin .le (.lit (-5000)) (.var 3)), (.bin .le (.var 3) (.lit 5000))], (.int .u64 (.ite (.un .bnot (.un .bnot (.var 0))) (.lit 4286578688) (.lit 2139095040)))),
  ([(.bin .lt (.bin .add (.bin .add (.var 3) rndB13Rz0) (.lit 150)) (.lit 255)), (.bin .le (.lit 8388608) (.un (.wrap .u64) (.bin .add (.var 5) (.lit 1)))), (.un .bnot (.bin .eq (.un (.wrap .u64) (.bin .add (.var 5) (.lit 1))) (.lit 16777216))), (.bin .eq (.bin .emod (.var 5) (.lit 2)) (.lit 1)), (.bin .eq (.var 6) (.lit 0)), (.un .bnot (.bin .eq (.var 6) (.lit 1))), rndB13Rz2, (.bin .eq (.var 5) (.un (.wrap .u64) rndB13Rz1)), (.bin .eq (.var 4) (.un (.wrap .u64) (.bin .ediv rndB13Rz1 (.lit 18446744073709551616)))), (.un .bnot (.bin .eq (.bin (.bits .or .u64) (.var 1) (.var 2)) (.lit 0))), (.bin .le (.lit 0) rndB13Rz0), (.bin .le (.bin .sub (.lit (-149)) (.var 3)) rndB13Rz0), (.bin .le (.lit (-5000)) (.var 3)), (.bin .le (.var 3) (.lit 5000))], (.int .u64 (.bin (.bits .or .u64) rndB13Rz4 (.bin .emod (.un (.wrap .u64) (.bin .add (.var 5) (.lit 1))) (.lit 8388608))))),
  ([(.bin .le (.lit 255) (.bin .add (.bin .add (.var 3) rndB13Rz0) (.lit 151))), (.bin .eq (.var 5) (.lit 16777216)), (.un .bnot (.bin .eq (.bin .emod (.var 5) (.lit 2)) (.lit 1))), (.bin .eq (.var 6) (.lit 0)), (.un .bnot (.bin .eq (.var 6) (.lit 1))), rndB13Rz2, (.bin .eq (.var 5) (.un (.wrap .u64) rndB13Rz1)), (.bin .eq (.var 4) (.un (.wrap .u64) (.bin .ediv rndB13Rz1 (.lit 18446744073709551616)))), (.un .bnot (.bin .eq (.bin (.bits .or .u64) (.var 1) (.var 2)) (.lit 0))), (.bin .le (.lit 0) rndB13Rz0), (.bin .le (.bin .sub (.lit (-149)) (.var 3)) rndB13Rz0), (.bin .le (.lit (-5000)) (.var 3)), (.bin .le (.var 3) (.lit 5000))], (.int .u64 (.ite (.un .bnot (.un .bnot (.var 0))) (.lit 4286578688) (.lit 2139095040)))),
  ([(.bin .lt (.bin .add (.bin .add (.var 3) rndB13Rz0) (.lit 151)) (.lit 255)), (.bin .eq (.var 5) (.lit 16777216)), (.un .bnot (.bin .eq (.bin .emod (.var 5) (.lit 2)) (.lit 1))), (.bin .eq (.var 6) (.lit 0)), (.un .bnot (.bin .eq (.var 6) (.lit 1))), rndB13Rz2, (.bin .eq (.var 5) (.un (.wrap .u64) rndB13Rz1)), (.bin .eq (.var 4) (.un (.wrap .u64) (.bin .ediv rndB13Rz1 (.lit 18446744073709551616)))), (.un .bnot (.bin .eq (.bin (.bits .or .u64) (.var 1) (.var 2)) (.lit 0))), (.bin .le (.lit 0) rndB13Rz0), (.bin .le (.bin .sub (.lit (-149)) (.var 3)) rndB13Rz0), (.bin .le (.lit (-5000)) (.var 3)), (.bin .le (.var 3) (.lit 5000))], (.int .u64 (.bin (.bits .or .u64) rndB13Rz3 (.bin .emod (.bin .ediv (.var 5) (.lit 2)) (.lit 8388608))))),
  ([(.bin .lt (.var 5) (.lit 8388608)), (.un .bnot (.bin .eq (.var 5) (.lit 16777216))), (.un .bnot (.bin .eq (.bin .emod (.var 5) (.lit 2)) (.lit 1))), (.bin .eq (.var 6) (.lit 0)), (.un .bnot (.bin .eq (.var 6) (.lit 1))), rndB13Rz2, (.bin .eq (.var 5) (.un (.wrap .u64) rndB13Rz1)), (.bin .eq (.var 4) (.un (.wrap .u64) (.bin .ediv rndB13Rz1 (.lit 18446744073709551616)))), (.un .bnot (.bin .eq (.bin (.bits .or .u64) (.var 1) (.var 2)) (.lit 0))), (.bin .le (.lit 0) rndB13Rz0), (.bin .le (.bin .sub (.lit (-149)) (.var 3)) rndB13Rz0), (.bin .le (.lit (-5000)) (.var 3)), (.bin .le (.var 3) (.lit 5000))], (.int .u64 (.bin (.bits .or .u64) (.ite (.un .bnot (.un .bnot (.var 0))) (.lit 2147483648) (.lit 0)) (.var 5)))),
  ([(.bin .le (.lit 255) (.bin .add (.bin .add (.var 3) rndB13Rz0) (.lit 150))), (.bin .le (.lit 8388608) (.var 5)), (.un .bnot (.bin .eq (.var 5) (.lit 16777216))), (.un .bnot (.bin .eq (.bin .emod (.var 5) (.lit 2)) (.lit 1))), (.bin .eq (.var 6) (.lit 0)), (.un .bnot (.bin .eq (.var 6) (.lit 1))), rndB13Rz2, (.bin .eq (.var 5) (.un (.wrap .u64) rndB13Rz1)), (.bin .eq (.var 4) (.un (.wrap .u64) (.bin .ediv rndB13Rz1 (.lit 18446744073709551616)))), (.un .bnot (.bin .eq (.bin (.bits .or .u64) (.var 1) (.var 2)) (.lit 0))), (.bin .le (.lit 0) rndB13Rz0), (.bin .le (.bin .sub (.lit (-149)) (.var 3)) rndB13Rz0), (.bin .le (.lit (-5000)) (.var 3)), (.bin .le (.var 3) (.lit 5000))], (.int .u64 (.ite (.un .bnot (.un .bnot (.var 0))) (.lit 4286578688) (.lit 2139095040)))),
  ([(.bin .lt (.bin .add (.bin .add (.var 3) rndB13Rz0) (.lit 150)) (.lit 255)), (.bin .le (.lit 8388608) (.var 5)), (.un .bnot (.bin .eq (.var 5) (.lit 16777216))), (.un .bnot (.bin .eq (.bin .emod (.var 5) (.lit 2)) (.lit 1))), (.bin .eq (.var 6) (.lit 0)), (.un .bnot (.bin .eq (.var 6) (.lit 1))), rndB13Rz2, (.bin .eq (.var 5) (.un (.wrap .u64) rndB13Rz1)), (.bin .eq (.var 4) (.un (.wrap .u64) (.bin .ediv rndB13Rz1 (.lit 18446744073709551616)))), (.un .bnot (.bin .eq (.bin (.bits .or .u64) (.var 1) (.var 2)) (.lit 0))), (.bin .le (.lit 0) rndB13Rz0), (.bin .le (.bin .sub (.lit (-149)) (.var 3)) rndB13Rz0), (.bin .le (.lit (-5000)) (.var 3)), (.bin .le (.var 3) (.lit 5000))], (.int .u64 (.bin (.bits .or .u64) rndB13Rz4 (.bin .emod (.var 5) (.lit 8388608))))),
  ([(.bin .le (.lit 255) (.bin .add (.bin .add (.var 3) rndB13Rz0) (.lit 151))), (.bin .eq (.var 5) (.lit 16777216)), (.un .bnot (.bin .eq (.var 6) (.lit 0))), (.un .bnot (.bin .eq (.var 6) (.lit 1))), rndB13Rz2, (.bin .eq (.var 5) (.un (.wrap .u64) rndB13Rz1)), (.bin .eq (.var 4) (.un (.wrap .u64) (.bin .ediv rndB13Rz1 (.lit 18446744073709551616)))), (.un .bnot (.bin .eq (.bin (.bits .or .u64) (.var 1) (.var 2)) (.lit 0))), (.bin .le (.lit 0) rndB13Rz0), (.bin .le (.bin .sub (.lit (-149)) (.var 3)) rndB13Rz0), (.bin .le (.lit (-5000)) (.var 3)), (.bin .le (.var 3) (.lit 5000))], (.int .u64 (.ite (.un .bnot (.un .bnot (.var 0))) (.lit 4286578688) (.lit 2139095040)))),
  ([(.bin .lt (.bin .add (.bin .add (.var 3) rndB13Rz0) (.lit 151)) (.lit 255)), (.bin .eq (.var 5) (.lit 16777216)), (.un .bnot (.bin .eq (.var 6) (.lit 0))), (.un .bnot (.bin .eq (.var 6) (.lit 1))), rndB13Rz2, (.bin .eq (.var 5) (.un (.wrap .u64) rndB13Rz1)), (.bin .eq (.var 4) (.un (.wrap .u64) (.bin .ediv rndB13Rz1 (.lit 18446744073709551616)))), (.un .bnot (.bin .eq (.bin (.bits .or .u64) (.var 1) (.var 2)) (.lit 0))), (.bin .le (.lit 0) rndB13Rz0), (.bin .le (.bin .sub (.lit (-149)) (.var 3)) rndB13Rz0), (.bin .le (.lit (-5000)) (.var 3)), (.bin .le (.var 3) (.lit 5000))], (.int .u64 (.bin (.bits .or .u64) rndB13Rz3 (.bin .emod (.bin .ediv (.var 5) (.lit 2)) (.lit 8388608))))),
  ([(.bin .lt (.var 5) (.lit 8388608)), (.un .bnot (.bin .eq (.var 5) (.lit 16777216))), (.un .bnot (.bin .eq (.var 6) (.lit 0))), (.un .bnot (.bin .eq (.var 6) (.lit 1))), rndB13Rz2, (.bin .eq (.var 5) (.un (.wrap .u64) rndB13Rz1)), (.bin .eq (.var 4) (.un (.wrap .u64) (.bin .ediv rndB13Rz1 (.lit 18446744073709551616)))), (.un .bnot (.bin .eq (.bin (.bits .or .u64) (.var 1) (.var 2)) (.lit 0))), (.bin .le (.lit 0) rndB13Rz0), (.bin .le (.bin .sub (.lit (-149)) (.var 3)) rndB13Rz0), (.bin .le (.lit (-5000)) (.var 3)), (.bin .le (.var 3) (.lit 5000))], (.int .u64 (.bin (.bits .or .u64) (.ite (.un .bnot (.un .bnot (.var 0))) (.lit 2147483648) (.lit 0)) (.var 5)))),
  ([(.bin .le (.lit 255) (.bin .add (.bin .add (.var 3) rndB13Rz0) (.lit 150))), (.bin .le (.lit 8388608) (.var 5)), (.un .bnot (.bin .eq (.var 5) (.lit 16777216))), (.un .bnot (.bin .eq (.var 6) (.lit 0))), (.un .bnot (.bin .eq (.var 6) (.lit 1))), rndB13Rz2, (.bin .eq (.var 5) (.un (.wrap .u64) rndB13Rz1)), (.bin .eq (.var 4) (.un (.wrap .u64) (.bin .ediv rndB13Rz1 (.lit 18446744073709551616)))), (.un .bnot (.bin .eq (.bin (.bits .or .u64) (.var 1) (.var 2)) (.lit 0))), (.bin .le (.lit 0) rndB13Rz0), (.bin .le (.bin .sub (.lit (-149)) (.var 3)) rndB13Rz0), (.bin .le (.lit (-5000)) (.var 3)), (.bin .le (.var 3) (.lit 5000))], (.int .u64 (.ite (.un .bnot (.un .bnot (.var 0))) (.lit 4286578688) (.lit 2139095040)))),
  ([(.bin .lt (.bin .add (.bin .add (.var 3) rndB13Rz0) (.lit 150)) (.lit 255)), (.bin .le (.lit 8388608) (.var 5)), (.un .bnot (.bin .eq (.var 5) (.lit 16777216))), (.un .bnot (.bin .eq (.var 6) (.lit 0))), (.un .bnot (.bin .eq (.var 6) (.lit 1))), rndB13Rz2, (.bin .eq (.var 5) (.un (.wrap .u64) rndB13Rz1)), (.bin .eq (.var 4) (.un (.wrap .u64) (.bin .ediv rndB13Rz1 (.lit 18446744073709551616)))), (.un .bnot (.bin .eq (.bin (.bits .or .u64) (.var 1) (.var 2)) (.lit 0))), (.bin .le (.lit 0) rndB13Rz0), (.bin .le (.bin .sub (.lit (-149)) (.var 3)) rndB13Rz0), (.bin .le (.lit (-5000)) (.var 3)), (.bin .le (.var 3) (.lit 5000))], (.int .u64 (.bin (.bits .or .u64) rndB13Rz4 (.bin .emod (.var 5) (.lit 8388608)))))]
set_option maxRecDepth 100000 in
theorem rndB13Ran : runOfG Try.prog (orcs (gOracle gsD03) (orcs (specOracle [longS]) (nameO (specOracle [downS])))) noLoops (bodies fns) [] 4000 rndB13 = some rndB13R := by kernel_rfl
end Go.Proofs.Ytnodelimomljbaa.RunRndB13

/- The reference's round, case B1, in numbers. No condition. -/
namespace Go.Proofs.Ytnodelimomljbaa.PlainRndB13
open Go Go.Sx Go.Sx.Flt Go.Sx.Ref Go.Proofs.Ytnodelimomljbaa.RunRndB13
set_option linter.unusedSimpArgs false
set_option linter.unusedVariables false
set_option maxHeartbeats 1000000 in
theorem plain (u : Nat → Int) (hk : KindOk u 0 rndB13.sp.ks) (hp : pcOk ⟨u, fnG⟩ rndB13.sp.pre) : Keeps ⟨u, fnG⟩ rndB13.sp.res rndB13R := by
  have h1 : 0 ≤ u 1 ∧ u 1 ≤ 18446744073709551615 := of_kind hk.2.1
  have h2 : 0 ≤ u 2 ∧ u 2 ≤ 18446744073709551615 := of_kind hk.2.2.1
  obtain ⟨q, hn⟩ : ∃ n : Nat, u 1 * 18446744073709551616 + u 2 = n := ⟨(u 1 * 18446744073709551616 + u 2).toNat, by omega⟩
  obtain ⟨K, hK⟩ : ∃ K, fnG 0 q 0 0 + -24 = K := ⟨_, rfl⟩
  obtain ⟨R, hR⟩ : ∃ R, fnG 5 q (u 3) 0 = R := ⟨_, rfl⟩
  have hL : fnG 0 q 0 0 = (lenN q : Int) := by simp only [fnG, Int.toNat_natCast]
  have q0 := hp _ (List.mem_cons_self)
  have q1 := hp _ (List.mem_cons_of_mem _ List.mem_cons_self)
  simp only [byA3, byB3, preB3, lenE, f1, nn, w64, v, bi, E.den, Bi.den, b2i_ne, decide_eq_true_eq, hn, hL] at q0 q1
  have q0 : 0 ≤ (lenN q : Int) + -24 := by first | exact of_decide_eq_true q0 | exact q0
  have q1 : -149 - u 3 ≤ (lenN q : Int) + -24 := by first | exact of_decide_eq_true q1 | exact q1
  have hT : 0 ≤ u 3 + K + 149 := by omega
  have h0 : q = 0 → R = 0 := fun h => by rw [← hR]; simp only [fnG, Int.toNat_natCast]; rw [h]; unfold rungOf; simp
  have F3 : fnG 3 q K 0 = lost q K := by simp only [fnG, Int.toNat_natCast]
  have core : ¬ bitI .or .u64 (u 1) (u 2) = 0 → ∃ M : Nat, fnG 2 q K 0 = (M : Int) ∧ M < 16777216 ∧ (M < 8388608 → u 3 + K + 149 = 0) ∧
      R = min ((u 3 + K + 149) * 8388608 + ((M : Int) + (if lost q K = 1 ∨ (lost q K = 0 ∧ M % 2 = 1) then 1 else 0))) 2139095040 := by
    intro hne
    have hn0 : q ≠ 0 := fun h => hne ((or_null h1 h2).2 (by omega))
    have hr := rung_double3 hn0 (u 3) K (by omega)
    have hR' : R = ((rungOf Ieee.single q (u 3) : Nat) : Int) := by rw [← hR]; simp only [fnG, Int.toNat_natCast]
    rw [hr] at hR'
    rw [hR']
    obtain ⟨k, hkk⟩ : ∃ k : Nat, K = k := Int.eq_ofNat_of_zero_le (by omega)
    have e1 : (-K).toNat = 0 := by omega
    have e2 : K.toNat = k := by omega
    refine ⟨q / 2 ^ k, by simp only [fnG, Int.toNat_natCast, e2], ?_, ?_, ?_⟩
    · rw [Nat.div_lt_iff_lt_mul (Nat.two_pow_pos k)]
      have e : (16777216 : Nat) * 2 ^ k = 2 ^ (24 + k) := by rw [Nat.pow_add]
      rw [e]
      exact (lenN_le q (24 + k)).1 (by omega)
    · intro hlo
      rcases Nat.lt_or_ge q (8388608 * 2 ^ k) with h | h
      · have e : (8388608 : Nat) * 2 ^ k = 2 ^ (23 + k) := by rw [Nat.pow_add]
        rw [e] at h
        have := (lenN_le q (23 + k)).2 h
        omega
      · have := (Nat.le_div_iff_mul_le (Nat.two_pow_pos k)).2 h
        omega
    · rw [e1, e2, Nat.pow_zero, Nat.mul_one, rne_lost, ← hkk]
      congr 2
      split <;> simp
  by_cases hz : u 0 = 0
  · have c1 : (b2i (b2i (u 0 == 0) == 0) ≠ 0) = False := by simp [hz, b2i]
    have c2 : (u 0 ≠ 0) = False := by simp [hz]
    simp only [rndB13, rndOf3, rndD3, rndB13R, rndB13Rz0, rndB13Rz1, rndB13Rz2, rndB13Rz3, rndB13Rz4, Keeps, chain, unOne, List.length, SameL, f2, nn, w64, v, bi, un, E.prop, E.den, Bi.den, Un.den, hn, Nat.beq, c1, c2, if_false, if_true, hK, hR]
    refine ⟨?_, ?_, ?_, ?_, ?_, ?_, ?_, ?_, ?_, ?_, ?_, ?_, ?_, ?_, ?_, ?_, ?_, ?_, ?_, ?_, ?_, trivial⟩
    · intro a1 a2 a3 a4 a5
      have hz2 := (or_null h1 h2).1 a5
      exact ⟨trivial, by rw [h0 (by omega)]; rfl, trivial⟩
    · intro a1 a2 a3 a4 a5 a6 a7 a8 a9 b0 b1
      obtain ⟨M, f2, hi, lo, hr⟩ := core a5
      clear core
      have hu5 : u 5 = M := by rw [a7, f2, u64_wr]; omega
      have hc : lost q K = 1 := by rw [← F3, ← a8, a9]
      rw [if_pos (.inl hc)] at hr
      have hx : IntKind.u64.wrap (u 5 + 1) = (M : Int) + 1 := by rw [hu5, u64_wr]; omega
      obtain ⟨g1, g2, g3, g4, g5⟩ := five3 (s := 0) (I := 2139095040) (by decide) (by decide) (by omega) hT (fun h => lo (by omega)) hr hx (E1 := u 3 + K + 151) (by omega) (E2 := u 3 + K + 150) (by omega)
      exact ⟨trivial, g1 b0 b1, trivial⟩
    · intro a1 a2 a3 a4 a5 a6 a7 a8 a9 b0 b1
      obtain ⟨M, f2, hi, lo, hr⟩ := core a5
      clear core
      have hu5 : u 5 = M := by rw [a7, f2, u64_wr]; omega
      have hc : lost q K = 1 := by rw [← F3, ← a8, a9]
      rw [if_pos (.inl hc)] at hr
      have hx : IntKind.u64.wrap (u 5 + 1) = (M : Int) + 1 := by rw [hu5, u64_wr]; omega
      obtain ⟨g1, g2, g3, g4, g5⟩ := five3 (s := 0) (I := 2139095040) (by decide) (by decide) (by omega) hT (fun h => lo (by omega)) hr hx (E1 := u 3 + K + 151) (by omega) (E2 := u 3 + K + 150) (by omega)
      exact ⟨trivial, g2 b0 b1, trivial⟩
    · intro a1 a2 a3 a4 a5 a6 a7 a8 a9 b0 b1
      obtain ⟨M, f2, hi, lo, hr⟩ := core a5
      clear core
      have hu5 : u 5 = M := by rw [a7, f2, u64_wr]; omega
      have hc : lost q K = 1 := by rw [← F3, ← a8, a9]
      rw [if_pos (.inl hc)] at hr
      have hx : IntKind.u64.wrap (u 5 + 1) = (M : Int) + 1 := by rw [hu5, u64_wr]; omega
      obtain ⟨g1, g2, g3, g4, g5⟩ := five3 (s := 0) (I := 2139095040) (by decide) (by decide) (by omega) hT (fun h => lo (by omega)) hr hx (E1 := u 3 + K + 151) (by omega) (E2 := u 3 + K + 150) (by omega)
      exact ⟨trivial, g3 b0 b1, trivial⟩
    · intro a1 a2 a3 a4 a5 a6 a7 a8 a9 b0 b1 b2
      obtain ⟨M, f2, hi, lo, hr⟩ := core a5
      clear core
      have hu5 : u 5 = M := by rw [a7, f2, u64_wr]; omega
      have hc : lost q K = 1 := by rw [← F3, ← a8, a9]
      rw [if_pos (.inl hc)] at hr
      have hx : IntKind.u64.wrap (u 5 + 1) = (M : Int) + 1 := by rw [hu5, u64_wr]; omega
      obtain ⟨g1, g2, g3, g4, g5⟩ := five3 (s := 0) (I := 2139095040) (by decide) (by decide) (by omega) hT (fun h => lo (by omega)) hr hx (E1 := u 3 + K + 151) (by omega) (E2 := u 3 + K + 150) (by omega)
      exact ⟨trivial, g4 b0 b1 b2, trivial⟩
    · intro a1 a2 a3 a4 a5 a6 a7 a8 a9 b0 b1 b2
      obtain ⟨M, f2, hi, lo, hr⟩ := core a5
      clear core
      have hu5 : u 5 = M := by rw [a7, f2, u64_wr]; omega
      have hc : lost q K = 1 := by rw [← F3, ← a8, a9]
      rw [if_pos (.inl hc)] at hr
      have hx : IntKind.u64.wrap (u 5 + 1) = (M : Int) + 1 := by rw [hu5, u64_wr]; omega
      obtain ⟨g1, g2, g3, g4, g5⟩ := five3 (s := 0) (I := 2139095040) (by decide) (by decide) (by omega) hT (fun h => lo (by omega)) hr hx (E1 := u 3 + K + 151) (by omega) (E2 := u 3 + K + 150) (by omega)
      exact ⟨trivial, g5 b0 b1 b2, trivial⟩
    · intro a1 a2 a3 a4 a5 a6 a7 a8 a9 a10 a11 b0 b1
      obtain ⟨M, f2, hi, lo, hr⟩ := core a5
      clear core
      have hu5 : u 5 = M := by rw [a7, f2, u64_wr]; omega
      have hc : lost q K = 0 := by rw [← F3, ← a8, a10]
      rw [if_pos (.inr ⟨hc, by rw [hu5] at a11; omega⟩)] at hr
      have hx : IntKind.u64.wrap (u 5 + 1) = (M : Int) + 1 := by rw [hu5, u64_wr]; omega
      obtain ⟨g1, g2, g3, g4, g5⟩ := five3 (s := 0) (I := 2139095040) (by decide) (by decide) (by omega) hT (fun h => lo (by omega)) hr hx (E1 := u 3 + K + 151) (by omega) (E2 := u 3 + K + 150) (by omega)
      exact ⟨trivial, g1 b0 b1, trivial⟩
    · intro a1 a2 a3 a4 a5 a6 a7 a8 a9 a10 a11 b0 b1
      obtain ⟨M, f2, hi, lo, hr⟩ := core a5
      clear core
      have hu5 : u 5 = M := by rw [a7, f2, u64_wr]; omega
      have hc : lost q K = 0 := by rw [← F3, ← a8, a10]
      rw [if_pos (.inr ⟨hc, by rw [hu5] at a11; omega⟩)] at hr
      have hx : IntKind.u64.wrap (u 5 + 1) = (M : Int) + 1 := by rw [hu5, u64_wr]; omega
      obtain ⟨g1, g2, g3, g4, g5⟩ := five3 (s := 0) (I := 2139095040) (by decide) (by decide) (by omega) hT (fun h => lo (by omega)) hr hx (E1 := u 3 + K + 151) (by omega) (E2 := u 3 + K + 150) (by omega)
      exact ⟨trivial, g2 b0 b1, trivial⟩
    · intro a1 a2 a3 a4 a5 a6 a7 a8 a9 a10 a11 b0 b1
      obtain ⟨M, f2, hi, lo, hr⟩ := core a5
      clear core
      have hu5 : u 5 = M := by rw [a7, f2, u64_wr]; omega
      have hc : lost q K = 0 := by rw [← F3, ← a8, a10]
      rw [if_pos (.inr ⟨hc, by rw [hu5] at a11; omega⟩)] at hr
      have hx : IntKind.u64.wrap (u 5 + 1) = (M : Int) + 1 := by rw [hu5, u64_wr]; omega
      obtain ⟨g1, g2, g3, g4, g5⟩ := five3 (s := 0) (I := 2139095040) (by decide) (by decide) (by omega) hT (fun h => lo (by omega)) hr hx (E1 := u 3 + K + 151) (by omega) (E2 := u 3 + K + 150) (by omega)
      exact ⟨trivial, g3 b0 b1, trivial⟩
    · intro a1 a2 a3 a4 a5 a6 a7 a8 a9 a10 a11 b0 b1 b2
      obtain ⟨M, f2, hi, lo, hr⟩ := core a5
      clear core
      have hu5 : u 5 = M := by rw [a7, f2, u64_wr]; omega
      have hc : lost q K = 0 := by rw [← F3, ← a8, a10]
      rw [if_pos (.inr ⟨hc, by rw [hu5] at a11; omega⟩)] at hr
      have hx : IntKind.u64.wrap (u 5 + 1) = (M : Int) + 1 := by rw [hu5, u64_wr]; omega
      obtain ⟨g1, g2, g3, g4, g5⟩ := five3 (s := 0) (I := 2139095040) (by decide) (by decide) (by omega) hT (fun h => lo (by omega)) hr hx (E1 := u 3 + K + 151) (by omega) (E2 := u 3 + K + 150) (by omega)
      exact ⟨trivial, g4 b0 b1 b2, trivial⟩
    · intro a1 a2 a3 a4 a5 a6 a7 a8 a9 a10 a11 b0 b1 b2
      obtain ⟨M, f2, hi, lo, hr⟩ := core a5
      clear core
      have hu5 : u 5 = M := by rw [a7, f2, u64_wr]; omega
      have hc : lost q K = 0 := by rw [← F3, ← a8, a10]
      rw [if_pos (.inr ⟨hc, by rw [hu5] at a11; omega⟩)] at hr
      have hx : IntKind.u64.wrap (u 5 + 1) = (M : Int) + 1 := by rw [hu5, u64_wr]; omega
      obtain ⟨g1, g2, g3, g4, g5⟩ := five3 (s := 0) (I := 2139095040) (by decide) (by decide) (by omega) hT (fun h => lo (by omega)) hr hx (E1 := u 3 + K + 151) (by omega) (E2 := u 3 + K + 150) (by omega)
      exact ⟨trivial, g5 b0 b1 b2, trivial⟩
    · intro a1 a2 a3 a4 a5 a6 a7 a8 a9 a10 a11 b0 b1
      obtain ⟨M, f2, hi, lo, hr⟩ := core a5
      clear core
      have hu5 : u 5 = M := by rw [a7, f2, u64_wr]; omega
      have hc : lost q K = 0 := by rw [← F3, ← a8, a10]
      rw [if_neg (by rw [hu5] at a11; omega)] at hr
      have hx : u 5 = (M : Int) + 0 := by rw [hu5]; omega
      obtain ⟨g1, g2, g3, g4, g5⟩ := five3 (s := 0) (I := 2139095040) (by decide) (by decide) (by omega) hT (fun h => lo (by omega)) hr hx (E1 := u 3 + K + 151) (by omega) (E2 := u 3 + K + 150) (by omega)
      exact ⟨trivial, g1 b0 b1, trivial⟩
    · intro a1 a2 a3 a4 a5 a6 a7 a8 a9 a10 a11 b0 b1
      obtain ⟨M, f2, hi, lo, hr⟩ := core a5
      clear core
      have hu5 : u 5 = M := by rw [a7, f2, u64_wr]; omega
      have hc : lost q K = 0 := by rw [← F3, ← a8, a10]
      rw [if_neg (by rw [hu5] at a11; omega)] at hr
      have hx : u 5 = (M : Int) + 0 := by rw [hu5]; omega
      obtain ⟨g1, g2, g3, g4, g5⟩ := five3 (s := 0) (I := 2139095040) (by decide) (by decide) (by omega) hT (fun h => lo (by omega)) hr hx (E1 := u 3 + K + 151) (by omega) (E2 := u 3 + K + 150) (by omega)
      exact ⟨trivial, g2 b0 b1, trivial⟩
    · intro a1 a2 a3 a4 a5 a6 a7 a8 a9 a10 a11 b0 b1
      obtain ⟨M, f2, hi, lo, hr⟩ := core a5
      clear core
      have hu5 : u 5 = M := by rw [a7, f2, u64_wr]; omega
      have hc : lost q K = 0 := by rw [← F3, ← a8, a10]
      rw [if_neg (by rw [hu5] at a11; omega)] at hr
      have hx : u 5 = (M : Int) + 0 := by rw [hu5]; omega
      obtain ⟨g1, g2, g3, g4, g5⟩ := five3 (s := 0) (I := 2139095040) (by decide) (by decide) (by omega) hT (fun h => lo (by omega)) hr hx (E1 := u 3 + K + 151) (by omega) (E2 := u 3 + K + 150) (by omega)
      exact ⟨trivial, g3 b0 b1, trivial⟩
    · intro a1 a2 a3 a4 a5 a6 a7 a8 a9 a10 a11 b0 b1 b2
      obtain ⟨M, f2, hi, lo, hr⟩ := core a5
      clear core
      have hu5 : u 5 = M := by rw [a7, f2, u64_wr]; omega
      have hc : lost q K = 0 := by rw [← F3, ← a8, a10]
      rw [if_neg (by rw [hu5] at a11; omega)] at hr
      have hx : u 5 = (M : Int) + 0 := by rw [hu5]; omega
      obtain ⟨g1, g2, g3, g4, g5⟩ := five3 (s := 0) (I := 2139095040) (by decide) (by decide) (by omega) hT (fun h => lo (by omega)) hr hx (E1 := u 3 + K + 151) (by omega) (E2 := u 3 + K + 150) (by omega)
      exact ⟨trivial, g4 b0 b1 b2, trivial⟩
    · intro a1 a2 a3 a4 a5 a6 a7 a8 a9 a10 a11 b0 b1 b2
      obtain ⟨M, f2, hi, lo, hr⟩ := core a5
      clear core
      have hu5 : u 5 = M := by rw [a7, f2, u64_wr]; omega
      have hc : lost q K = 0 := by rw [← F3, ← a8, a10]
      rw [if_neg (by rw [hu5] at a11; omega)] at hr
      have hx : u 5 = (M : Int) + 0 := by rw [hu5]; omega
      obtain ⟨g1, g2, g3, g4, g5⟩ := five3 (s := 0) (I := 2139095040) (by decide) (by decide) (by omega) hT (fun h => lo (by omega)) hr hx (E1 := u 3 + K + 151) (by omega) (E2 := u 3 + K + 150) (by omega)
      exact ⟨trivial, g5 b0 b1 b2, trivial⟩
    · intro a1 a2 a3 a4 a5 a6 a7 a8 a9 a10 b0 b1
      obtain ⟨M, f2, hi, lo, hr⟩ := core a5
      clear core
      have hu5 : u 5 = M := by rw [a7, f2, u64_wr]; omega
      have hc : ¬ lost q K = 0 ∧ ¬ lost q K = 1 := by rw [← F3, ← a8]; exact ⟨a10, a9⟩
      rw [if_neg (by omega)] at hr
      have hx : u 5 = (M : Int) + 0 := by rw [hu5]; omega
      obtain ⟨g1, g2, g3, g4, g5⟩ := five3 (s := 0) (I := 2139095040) (by decide) (by decide) (by omega) hT (fun h => lo (by omega)) hr hx (E1 := u 3 + K + 151) (by omega) (E2 := u 3 + K + 150) (by omega)
      exact ⟨trivial, g1 b0 b1, trivial⟩
    · intro a1 a2 a3 a4 a5 a6 a7 a8 a9 a10 b0 b1
      obtain ⟨M, f2, hi, lo, hr⟩ := core a5
      clear core
      have hu5 : u 5 = M := by rw [a7, f2, u64_wr]; omega
      have hc : ¬ lost q K = 0 ∧ ¬ lost q K = 1 := by rw [← F3, ← a8]; exact ⟨a10, a9⟩
      rw [if_neg (by omega)] at hr
      have hx : u 5 = (M : Int) + 0 := by rw [hu5]; omega
      obtain ⟨g1, g2, g3, g4, g5⟩ := five3 (s := 0) (I := 2139095040) (by decide) (by decide) (by omega) hT (fun h => lo (by omega)) hr hx (E1 := u 3 + K + 151) (by omega) (E2 := u 3 + K + 150) (by omega)
      exact ⟨trivial, g2 b0 b1, trivial⟩
    · intro a1 a2 a3 a4 a5 a6 a7 a8 a9 a10 b0 b1
      obtain ⟨M, f2, hi, lo, hr⟩ := core a5
      clear core
      have hu5 : u 5 = M := by rw [a7, f2, u64_wr]; omega
      have hc : ¬ lost q K = 0 ∧ ¬ lost q K = 1 := by rw [← F3, ← a8]; exact ⟨a10, a9⟩
      rw [if_neg (by omega)] at hr
      have hx : u 5 = (M : Int) + 0 := by rw [hu5]; omega
      obtain ⟨g1, g2, g3, g4, g5⟩ := five3 (s := 0) (I := 2139095040) (by decide) (by decide) (by omega) hT (fun h => lo (by omega)) hr hx (E1 := u 3 + K + 151) (by omega) (E2 := u 3 + K + 150) (by omega)
      exact ⟨trivial, g3 b0 b1, trivial⟩
    · intro a1 a2 a3 a4 a5 a6 a7 a8 a9 a10 b0 b1 b2
      obtain ⟨M, f2, hi, lo, hr⟩ := core a5
      clear core
      have hu5 : u 5 = M := by rw [a7, f2, u64_wr]; omega
      have hc : ¬ lost q K = 0 ∧ ¬ lost q K = 1 := by rw [← F3, ← a8]; exact ⟨a10, a9⟩
      rw [if_neg (by omega)] at hr
      have hx : u 5 = (M : Int) + 0 := by rw [hu5]; omega
      obtain ⟨g1, g2, g3, g4, g5⟩ := five3 (s := 0) (I := 2139095040) (by decide) (by decide) (by omega) hT (fun h => lo (by omega)) hr hx (E1 := u 3 + K + 151) (by omega) (E2 := u 3 + K + 150) (by omega)
      exact ⟨trivial, g4 b0 b1 b2, trivial⟩
    · intro a1 a2 a3 a4 a5 a6 a7 a8 a9 a10 b0 b1 b2
      obtain ⟨M, f2, hi, lo, hr⟩ := core a5
      clear core
      have hu5 : u 5 = M := by rw [a7, f2, u64_wr]; omega
      have hc : ¬ lost q K = 0 ∧ ¬ lost q K = 1 := by rw [← F3, ← a8]; exact ⟨a10, a9⟩
      rw [if_neg (by omega)] at hr
      have hx : u 5 = (M : Int) + 0 := by rw [hu5]; omega
      obtain ⟨g1, g2, g3, g4, g5⟩ := five3 (s := 0) (I := 2139095040) (by decide) (by decide) (by omega) hT (fun h => lo (by omega)) hr hx (E1 := u 3 + K + 151) (by omega) (E2 := u 3 + K + 150) (by omega)
      exact ⟨trivial, g5 b0 b1 b2, trivial⟩
  · have c1 : (b2i (b2i (u 0 == 0) == 0) ≠ 0) = True := by simp [hz, b2i]
    have c2 : (u 0 ≠ 0) = True := by simp [hz]
    simp only [rndB13, rndOf3, rndD3, rndB13R, rndB13Rz0, rndB13Rz1, rndB13Rz2, rndB13Rz3, rndB13Rz4, Keeps, chain, unOne, List.length, SameL, f2, nn, w64, v, bi, un, E.prop, E.den, Bi.den, Un.den, hn, Nat.beq, c1, c2, if_false, if_true, hK, hR]
    refine ⟨?_, ?_, ?_, ?_, ?_, ?_, ?_, ?_, ?_, ?_, ?_, ?_, ?_, ?_, ?_, ?_, ?_, ?_, ?_, ?_, ?_, trivial⟩
    · intro a1 a2 a3 a4 a5
      have hz2 := (or_null h1 h2).1 a5
      exact ⟨trivial, by rw [h0 (by omega)]; rfl, trivial⟩
    · intro a1 a2 a3 a4 a5 a6 a7 a8 a9 b0 b1
      obtain ⟨M, f2, hi, lo, hr⟩ := core a5
      clear core
      have hu5 : u 5 = M := by rw [a7, f2, u64_wr]; omega
      have hc : lost q K = 1 := by rw [← F3, ← a8, a9]
      rw [if_pos (.inl hc)] at hr
      have hx : IntKind.u64.wrap (u 5 + 1) = (M : Int) + 1 := by rw [hu5, u64_wr]; omega
      obtain ⟨g1, g2, g3, g4, g5⟩ := five3 (s := 2147483648) (I := 4286578688) (by decide) (by decide) (by omega) hT (fun h => lo (by omega)) hr hx (E1 := u 3 + K + 151) (by omega) (E2 := u 3 + K + 150) (by omega)
      exact ⟨trivial, g1 b0 b1, trivial⟩
    · intro a1 a2 a3 a4 a5 a6 a7 a8 a9 b0 b1
      obtain ⟨M, f2, hi, lo, hr⟩ := core a5
      clear core
      have hu5 : u 5 = M := by rw [a7, f2, u64_wr]; omega
      have hc : lost q K = 1 := by rw [← F3, ← a8, a9]
      rw [if_pos (.inl hc)] at hr
      have hx : IntKind.u64.wrap (u 5 + 1) = (M : Int) + 1 := by rw [hu5, u64_wr]; omega
      obtain ⟨g1, g2, g3, g4, g5⟩ := five3 (s := 2147483648) (I := 4286578688) (by decide) (by decide) (by omega) hT (fun h => lo (by omega)) hr hx (E1 := u 3 + K + 151) (by omega) (E2 := u 3 + K + 150) (by omega)
      exact ⟨trivial, g2 b0 b1, trivial⟩
    · intro a1 a2 a3 a4 a5 a6 a7 a8 a9 b0 b1
      obtain ⟨M, f2, hi, lo, hr⟩ := core a5
      clear core
      have hu5 : u 5 = M := by rw [a7, f2, u64_wr]; omega
      have hc : lost q K = 1 := by rw [← F3, ← a8, a9]
      rw [if_pos (.inl hc)] at hr
      have hx : IntKind.u64.wrap (u 5 + 1) = (M : Int) + 1 := by rw [hu5, u64_wr]; omega
      obtain ⟨g1, g2, g3, g4, g5⟩ := five3 (s := 2147483648) (I := 4286578688) (by decide) (by decide) (by omega) hT (fun h => lo (by omega)) hr hx (E1 := u 3 + K + 151) (by omega) (E2 := u 3 + K + 150) (by omega)
      exact ⟨trivial, g3 b0 b1, trivial⟩
    · intro a1 a2 a3 a4 a5 a6 a7 a8 a9 b0 b1 b2
      obtain ⟨M, f2, hi, lo, hr⟩ := core a5
      clear core
      have hu5 : u 5 = M := by rw [a7, f2, u64_wr]; omega
      have hc : lost q K = 1 := by rw [← F3, ← a8, a9]
      rw [if_pos (.inl hc)] at hr
      have hx : IntKind.u64.wrap (u 5 + 1) = (M : Int) + 1 := by rw [hu5, u64_wr]; omega
      obtain ⟨g1, g2, g3, g4, g5⟩ := five3 (s := 2147483648) (I := 4286578688) (by decide) (by decide) (by omega) hT (fun h => lo (by omega)) hr hx (E1 := u 3 + K + 151) (by omega) (E2 := u 3 + K + 150) (by omega)
      exact ⟨trivial, g4 b0 b1 b2, trivial⟩
    · intro a1 a2 a3 a4 a5 a6 a7 a8 a9 b0 b1 b2
      obtain ⟨M, f2, hi, lo, hr⟩ := core a5
      clear core
      have hu5 : u 5 = M := by rw [a7, f2, u64_wr]; omega
      have hc : lost q K = 1 := by rw [← F3, ← a8, a9]
      rw [if_pos (.inl hc)] at hr
      have hx : IntKind.u64.wrap (u 5 + 1) = (M : Int) + 1 := by rw [hu5, u64_wr]; omega
      obtain ⟨g1, g2, g3, g4, g5⟩ := five3 (s := 2147483648) (I := 4286578688) (by decide) (by decide) (by omega) hT (fun h => lo (by omega)) hr hx (E1 := u 3 + K + 151) (by omega) (E2 := u 3 + K + 150) (by omega)
      exact ⟨trivial, g5 b0 b1 b2, trivial⟩
    · intro a1 a2 a3 a4 a5 a6 a7 a8 a9 a10 a11 b0 b1
      obtain ⟨M, f2, hi, lo, hr⟩ := core a5
      clear core
      have hu5 : u 5 = M := by rw [a7, f2, u64_wr]; omega
      have hc : lost q K = 0 := by rw [← F3, ← a8, a10]
      rw [if_pos (.inr ⟨hc, by rw [hu5] at a11; omega⟩)] at hr
      have hx : IntKind.u64.wrap (u 5 + 1) = (M : Int) + 1 := by rw [hu5, u64_wr]; omega
      obtain ⟨g1, g2, g3, g4, g5⟩ := five3 (s := 2147483648) (I := 4286578688) (by decide) (by decide) (by omega) hT (fun h => lo (by omega)) hr hx (E1 := u 3 + K + 151) (by omega) (E2 := u 3 + K + 150) (by omega)
      exact ⟨trivial, g1 b0 b1, trivial⟩
    · intro a1 a2 a3 a4 a5 a6 a7 a8 a9 a10 a11 b0 b1
      obtain ⟨M, f2, hi, lo, hr⟩ := core a5
      clear core
      have hu5 : u 5 = M := by rw [a7, f2, u64_wr]; omega
      have hc : lost q K = 0 := by rw [← F3, ← a8, a10]
      rw [if_pos (.inr ⟨hc, by rw [hu5] at a11; omega⟩)] at hr
      have hx : IntKind.u64.wrap (u 5 + 1) = (M : Int) + 1 := by rw [hu5, u64_wr]; omega
      obtain ⟨g1, g2, g3, g4, g5⟩ := five3 (s := 2147483648) (I := 4286578688) (by decide) (by decide) (by omega) hT (fun h => lo (by omega)) hr hx (E1 := u 3 + K + 151) (by omega) (E2 := u 3 + K + 150) (by omega)
      exact ⟨trivial, g2 b0 b1, trivial⟩
    · intro a1 a2 a3 a4 a5 a6 a7 a8 a9 a10 a11 b0 b1
      obtain ⟨M, f2, hi, lo, hr⟩ := core a5
      clear core
      have hu5 : u 5 = M := by rw [a7, f2, u64_wr]; omega
      have hc : lost q K = 0 := by rw [← F3, ← a8, a10]
      rw [if_pos (.inr ⟨hc, by rw [hu5] at a11; omega⟩)] at hr
      have hx : IntKind.u64.wrap (u 5 + 1) = (M : Int) + 1 := by rw [hu5, u64_wr]; omega
      obtain ⟨g1, g2, g3, g4, g5⟩ := five3 (s := 2147483648) (I := 4286578688) (by decide) (by decide) (by omega) hT (fun h => lo (by omega)) hr hx (E1 := u 3 + K + 151) (by omega) (E2 := u 3 + K + 150) (by omega)
      exact ⟨trivial, g3 b0 b1, trivial⟩
    · intro a1 a2 a3 a4 a5 a6 a7 a8 a9 a10 a11 b0 b1 b2
      obtain ⟨M, f2, hi, lo, hr⟩ := core a5
      clear core
      have hu5 : u 5 = M := by rw [a7, f2, u64_wr]; omega
      have hc : lost q K = 0 := by rw [← F3, ← a8, a10]
      rw [if_pos (.inr ⟨hc, by rw [hu5] at a11; omega⟩)] at hr
      have hx : IntKind.u64.wrap (u 5 + 1) = (M : Int) + 1 := by rw [hu5, u64_wr]; omega
      obtain ⟨g1, g2, g3, g4, g5⟩ := five3 (s := 2147483648) (I := 4286578688) (by decide) (by decide) (by omega) hT (fun h => lo (by omega)) hr hx (E1 := u 3 + K + 151) (by omega) (E2 := u 3 + K + 150) (by omega)
      exact ⟨trivial, g4 b0 b1 b2, trivial⟩
    · intro a1 a2 a3 a4 a5 a6 a7 a8 a9 a10 a11 b0 b1 b2
      obtain ⟨M, f2, hi, lo, hr⟩ := core a5
      clear core
      have hu5 : u 5 = M := by rw [a7, f2, u64_wr]; omega
      have hc : lost q K = 0 := by rw [← F3, ← a8, a10]
      rw [if_pos (.inr ⟨hc, by rw [hu5] at a11; omega⟩)] at hr
      have hx : IntKind.u64.wrap (u 5 + 1) = (M : Int) + 1 := by rw [hu5, u64_wr]; omega
      obtain ⟨g1, g2, g3, g4, g5⟩ := five3 (s := 2147483648) (I := 4286578688) (by decide) (by decide) (by omega) hT (fun h => lo (by omega)) hr hx (E1 := u 3 + K + 151) (by omega) (E2 := u 3 + K + 150) (by omega)
      exact ⟨trivial, g5 b0 b1 b2, trivial⟩
    · intro a1 a2 a3 a4 a5 a6 a7 a8 a9 a10 a11 b0 b1
      obtain ⟨M, f2, hi, lo, hr⟩ := core a5
      clear core
      have hu5 : u 5 = M := by rw [a7, f2, u64_wr]; omega
      have hc : lost q K = 0 := by rw [← F3, ← a8, a10]
      rw [if_neg (by rw [hu5] at a11; omega)] at hr
      have hx : u 5 = (M : Int) + 0 := by rw [hu5]; omega
      obtain ⟨g1, g2, g3, g4, g5⟩ := five3 (s := 2147483648) (I := 4286578688) (by decide) (by decide) (by omega) hT (fun h => lo (by omega)) hr hx (E1 := u 3 + K + 151) (by omega) (E2 := u 3 + K + 150) (by omega)
      exact ⟨trivial, g1 b0 b1, trivial⟩
    · intro a1 a2 a3 a4 a5 a6 a7 a8 a9 a10 a11 b0 b1
      obtain ⟨M, f2, hi, lo, hr⟩ := core a5
      clear core
      have hu5 : u 5 = M := by rw [a7, f2, u64_wr]; omega
      have hc : lost q K = 0 := by rw [← F3, ← a8, a10]
      rw [if_neg (by rw [hu5] at a11; omega)] at hr
      have hx : u 5 = (M : Int) + 0 := by rw [hu5]; omega
      obtain ⟨g1, g2, g3, g4, g5⟩ := five3 (s := 2147483648) (I := 4286578688) (by decide) (by decide) (by omega) hT (fun h => lo (by omega)) hr hx (E1 := u 3 + K + 151) (by omega) (E2 := u 3 + K + 150) (by omega)
      exact ⟨trivial, g2 b0 b1, trivial⟩
    · intro a1 a2 a3 a4 a5 a6 a7 a8 a9 a10 a11 b0 b1
      obtain ⟨M, f2, hi, lo, hr⟩ := core a5
      clear core
      have hu5 : u 5 = M := by rw [a7, f2, u64_wr]; omega
      have hc : lost q K = 0 := by rw [← F3, ← a8, a10]
      rw [if_neg (by rw [hu5] at a11; omega)] at hr
      have hx : u 5 = (M : Int) + 0 := by rw [hu5]; omega
      obtain ⟨g1, g2, g3, g4, g5⟩ := five3 (s := 2147483648) (I := 4286578688) (by decide) (by decide) (by omega) hT (fun h => lo (by omega)) hr hx (E1 := u 3 + K + 151) (by omega) (E2 := u 3 + K + 150) (by omega)
      exact ⟨trivial, g3 b0 b1, trivial⟩
    · intro a1 a2 a3 a4 a5 a6 a7 a8 a9 a10 a11 b0 b1 b2
      obtain ⟨M, f2, hi, lo, hr⟩ := core a5
      clear core
      have hu5 : u 5 = M := by rw [a7, f2, u64_wr]; omega
      have hc : lost q K = 0 := by rw [← F3, ← a8, a10]
      rw [if_neg (by rw [hu5] at a11; omega)] at hr
      have hx : u 5 = (M : Int) + 0 := by rw [hu5]; omega
      obtain ⟨g1, g2, g3, g4, g5⟩ := five3 (s := 2147483648) (I := 4286578688) (by decide) (by decide) (by omega) hT (fun h => lo (by omega)) hr hx (E1 := u 3 + K + 151) (by omega) (E2 := u 3 + K + 150) (by omega)
      exact ⟨trivial, g4 b0 b1 b2, trivial⟩
    · intro a1 a2 a3 a4 a5 a6 a7 a8 a9 a10 a11 b0 b1 b2
      obtain ⟨M, f2, hi, lo, hr⟩ := core a5
      clear core
      have hu5 : u 5 = M := by rw [a7, f2, u64_wr]; omega
      have hc : lost q K = 0 := by rw [← F3, ← a8, a10]
      rw [if_neg (by rw [hu5] at a11; omega)] at hr
      have hx : u 5 = (M : Int) + 0 := by rw [hu5]; omega
      obtain ⟨g1, g2, g3, g4, g5⟩ := five3 (s := 2147483648) (I := 4286578688) (by decide) (by decide) (by omega) hT (fun h => lo (by omega)) hr hx (E1 := u 3 + K + 151) (by omega) (E2 := u 3 + K + 150) (by omega)
      exact ⟨trivial, g5 b0 b1 b2, trivial⟩
    · intro a1 a2 a3 a4 a5 a6 a7 a8 a9 a10 b0 b1
      obtain ⟨M, f2, hi, lo, hr⟩ := core a5
      clear core
      have hu5 : u 5 = M := by rw [a7, f2, u64_wr]; omega
      have hc : ¬ lost q K = 0 ∧ ¬ lost q K = 1 := by rw [← F3, ← a8]; exact ⟨a10, a9⟩
      rw [if_neg (by omega)] at hr
      have hx : u 5 = (M : Int) + 0 := by rw [hu5]; omega
      obtain ⟨g1, g2, g3, g4, g5⟩ := five3 (s := 2147483648) (I := 4286578688) (by decide) (by decide) (by omega) hT (fun h => lo (by omega)) hr hx (E1 := u 3 + K + 151) (by omega) (E2 := u 3 + K + 150) (by omega)
      exact ⟨trivial, g1 b0 b1, trivial⟩
    · intro a1 a2 a3 a4 a5 a6 a7 a8 a9 a10 b0 b1
      obtain ⟨M, f2, hi, lo, hr⟩ := core a5
      clear core
      have hu5 : u 5 = M := by rw [a7, f2, u64_wr]; omega
      have hc : ¬ lost q K = 0 ∧ ¬ lost q K = 1 := by rw [← F3, ← a8]; exact ⟨a10, a9⟩
      rw [if_neg (by omega)] at hr
      have hx : u 5 = (M : Int) + 0 := by rw [hu5]; omega
      obtain ⟨g1, g2, g3, g4, g5⟩ := five3 (s := 2147483648) (I := 4286578688) (by decide) (by decide) (by omega) hT (fun h => lo (by omega)) hr hx (E1 := u 3 + K + 151) (by omega) (E2 := u 3 + K + 150) (by omega)
      exact ⟨trivial, g2 b0 b1, trivial⟩
    · intro a1 a2 a3 a4 a5 a6 a7 a8 a9 a10 b0 b1
      obtain ⟨M, f2, hi, lo, hr⟩ := core a5
      clear core
      have hu5 : u 5 = M := by rw [a7, f2, u64_wr]; omega
      have hc : ¬ lost q K = 0 ∧ ¬ lost q K = 1 := by rw [← F3, ← a8]; exact ⟨a10, a9⟩
      rw [if_neg (by omega)] at hr
      have hx : u 5 = (M : Int) + 0 := by rw [hu5]; omega
      obtain ⟨g1, g2, g3, g4, g5⟩ := five3 (s := 2147483648) (I := 4286578688) (by decide) (by decide) (by omega) hT (fun h => lo (by omega)) hr hx (E1 := u 3 + K + 151) (by omega) (E2 := u 3 + K + 150) (by omega)
      exact ⟨trivial, g3 b0 b1, trivial⟩
    · intro a1 a2 a3 a4 a5 a6 a7 a8 a9 a10 b0 b1 b2
      obtain ⟨M, f2, hi, lo, hr⟩ := core a5
      clear core
      have hu5 : u 5 = M := by rw [a7, f2, u64_wr]; omega
      have hc : ¬ lost q K = 0 ∧ ¬ lost q K = 1 := by rw [← F3, ← a8]; exact ⟨a10, a9⟩
      rw [if_neg (by omega)] at hr
      have hx : u 5 = (M : Int) + 0 := by rw [hu5]; omega
      obtain ⟨g1, g2, g3, g4, g5⟩ := five3 (s := 2147483648) (I := 4286578688) (by decide) (by decide) (by omega) hT (fun h => lo (by omega)) hr hx (E1 := u 3 + K + 151) (by omega) (E2 := u 3 + K + 150) (by omega)
      exact ⟨trivial, g4 b0 b1 b2, trivial⟩
    · intro a1 a2 a3 a4 a5 a6 a7 a8 a9 a10 b0 b1 b2
      obtain ⟨M, f2, hi, lo, hr⟩ := core a5
      clear core
      have hu5 : u 5 = M := by rw [a7, f2, u64_wr]; omega
      have hc : ¬ lost q K = 0 ∧ ¬ lost q K = 1 := by rw [← F3, ← a8]; exact ⟨a10, a9⟩
      rw [if_neg (by omega)] at hr
      have hx : u 5 = (M : Int) + 0 := by rw [hu5]; omega
      obtain ⟨g1, g2, g3, g4, g5⟩ := five3 (s := 2147483648) (I := 4286578688) (by decide) (by decide) (by omega) hT (fun h => lo (by omega)) hr hx (E1 := u 3 + K + 151) (by omega) (E2 := u 3 + K + 150) (by omega)
      exact ⟨trivial, g5 b0 b1 b2, trivial⟩
end Go.Proofs.Ytnodelimomljbaa.PlainRndB13

/- The ways of the reference's single floats through numbers, and that the code takes no other. No condition. -/
namespace Go.Proofs.Ytnodelimomljbaa.RunRefF3
open Go Go.Sx Go.Sx.Flt Go.Sx.Ref

def compDK30Rz0 : E := (.ite (.bin .le (.lit 2147483648) (.var 1)) (.bin .sub (.lit 2147483648) (.var 1)) (.var 1))
def compDK30Rz1 : E := (.ite (.bin .le (.lit 2147483648) (.var 0)) (.bin .sub (.lit 2147483648) (.var 0)) (.var 0))
def compDK30R : List Leaf := [
  ([(.bin .lt (.lit 2139095040) (.bin .emod (.var 0) (.lit 2147483648))), (.bin .eq (.var 5) (plcE3 (.var 1))), (.bin .eq (.var 4) (magE3 (.var 1))), (.bin .eq (.var 3) (plcE3 (.var 0))), (.bin .eq (.var 2) (magE3 (.var 0))), (.bin .le (.var 0) (.lit 4294967295)), (.bin .le (.var 1) (.lit 4294967295))], (.int .i64 (.lit 0))),
  ([(.bin .lt (.lit 2139095040) (.bin .emod (.var 1) (.lit 2147483648))), (.bin .le (.bin .emod (.var 0) (.lit 2147483648)) (.lit 2139095040)), (.bin .eq (.var 5) (plcE3 (.var 1))), (.bin .eq (.var 4) (magE3 (.var 1))), (.bin .eq (.var 3) (plcE3 (.var 0))), (.bin .eq (.var 2) (magE3 (.var 0))), (.bin .le (.var 0) (.lit 4294967295)), (.bin .le (.var 1) (.lit 4294967295))], (.int .i64 (.lit 0))),
  ([(.bin .le compDK30Rz1 compDK30Rz0), (.bin .le compDK30Rz0 compDK30Rz1), (.bin .le (.bin .emod (.var 1) (.lit 2147483648)) (.lit 2139095040)), (.bin .le (.bin .emod (.var 0) (.lit 2147483648)) (.lit 2139095040)), (.bin .eq (.var 5) (plcE3 (.var 1))), (.bin .eq (.var 4) (magE3 (.var 1))), (.bin .eq (.var 3) (plcE3 (.var 0))), (.bin .eq (.var 2) (magE3 (.var 0))), (.bin .le (.var 0) (.lit 4294967295)), (.bin .le (.var 1) (.lit 4294967295))], (.int .i64 (.lit 1))),
  ([(.bin .lt compDK30Rz0 compDK30Rz1), (.bin .le compDK30Rz0 compDK30Rz1), (.bin .le (.bin .emod (.var 1) (.lit 2147483648)) (.lit 2139095040)), (.bin .le (.bin .emod (.var 0) (.lit 2147483648)) (.lit 2139095040)), (.bin .eq (.var 5) (plcE3 (.var 1))), (.bin .eq (.var 4) (magE3 (.var 1))), (.bin .eq (.var 3) (plcE3 (.var 0))), (.bin .eq (.var 2) (magE3 (.var 0))), (.bin .le (.var 0) (.lit 4294967295)), (.bin .le (.var 1) (.lit 4294967295))], (.int .i64 (.lit 0))),
  ([(.bin .lt compDK30Rz1 compDK30Rz0), (.bin .le (.bin .emod (.var 1) (.lit 2147483648)) (.lit 2139095040)), (.bin .le (.bin .emod (.var 0) (.lit 2147483648)) (.lit 2139095040)), (.bin .eq (.var 5) (plcE3 (.var 1))), (.bin .eq (.var 4) (magE3 (.var 1))), (.bin .eq (.var 3) (plcE3 (.var 0))), (.bin .eq (.var 2) (magE3 (.var 0))), (.bin .le (.var 0) (.lit 4294967295)), (.bin .le (.var 1) (.lit 4294967295))], (.int .i64 (.lit 0))),
  ([(.bin .lt (.lit 2139095040) (.bin .emod (.var 0) (.lit 2147483648))), (.bin .eq (.var 5) (plcE3 (.var 1))), (.bin .eq (.var 4) (magE3 (.var 1))), (.bin .eq (.var 3) (plcE3 (.var 0))), (.bin .eq (.var 2) (magE3 (.var 0))), (.bin .le (.var 0) (.lit 4294967295)), (.bin .le (.var 1) (.lit 4294967295))], (.int .i64 (.lit 0))),
  ([(.bin .lt (.lit 2139095040) (.bin .emod (.var 1) (.lit 2147483648))), (.bin .le (.bin .emod (.var 0) (.lit 2147483648)) (.lit 2139095040)), (.bin .eq (.var 5) (plcE3 (.var 1))), (.bin .eq (.var 4) (magE3 (.var 1))), (.bin .eq (.var 3) (plcE3 (.var 0))), (.bin .eq (.var 2) (magE3 (.var 0))), (.bin .le (.var 0) (.lit 4294967295)), (.bin .le (.var 1) (.lit 4294967295))], (.int .i64 (.lit 0))),
  ([(.bin .le compDK30Rz1 compDK30Rz0), (.bin .le compDK30Rz0 compDK30Rz1), (.bin .le (.bin .emod (.var 1) (.lit 2147483648)) (.lit 2139095040)), (.bin .le (.bin .emod (.var 0) (.lit 2147483648)) (.lit 2139095040)), (.bin .eq (.var 5) (plcE3 (.var 1))), (.bin .eq (.var 4) (magE3 (.var 1))), (.bin .eq (.var 3) (plcE3 (.var 0))), (.bin .eq (.var 2) (magE3 (.var 0))), (.bin .le (.var 0) (.lit 4294967295)), (.bin .le (.var 1) (.lit 4294967295))], (.int .i64 (.lit 1))),
  ([(.bin .lt compDK30Rz0 compDK30Rz1), (.bin .le compDK30Rz0 compDK30Rz1), (.bin .le (.bin .emod (.var 1) (.lit 2147483648)) (.lit 2139095040)), (.bin .le (.bin .emod (.var 0) (.lit 2147483648)) (.lit 2139095040)), (.bin .eq (.var 5) (plcE3 (.var 1))), (.bin .eq (.var 4) (magE3 (.var 1))), (.bin .eq (.var 3) (plcE3 (.var 0))), (.bin .eq (.var 2) (magE3 (.var 0))), (.bin .le (.var 0) (.lit 4294967295)), (.bin .le (.var 1) (.lit 4294967295))], (.int .i64 (.lit 0))),
  ([(.bin .lt compDK30Rz1 compDK30Rz0), (.bin .le (.bin .emod (.var 1) (.lit 2147483648)) (.lit 2139095040)), (.bin .le (.bin .emod (.var 0) (.lit 2147483648)) (.lit 2139095040)), (.bin .eq (.var 5) (plcE3 (.var 1))), (.bin .eq (.var 4) (magE3 (.var 1))), (.bin .eq (.var 3) (plcE3 (.var 0))), (.bin .eq (.var 2) (magE3 (.var 0))), (.bin .le (.var 0) (.lit 4294967295)), (.bin .le (.var 1) (.lit 4294967295))], (.int .i64 (.lit 0)))]
set_option maxRecDepth 100000 in
theorem compDK30Ran : runOfG Try.prog (orcs (nameO (gOracle [apartD3])) (gOracle [lessD3])) noLoops (bodies fns) [] 4000 (compDK3 0) = some compDK30R := by kernel_rfl
def compDK31Rz0 : E := (.ite (.bin .le (.lit 2147483648) (.var 1)) (.bin .sub (.lit 2147483648) (.var 1)) (.var 1))
def compDK31Rz1 : E := (.ite (.bin .le (.lit 2147483648) (.var 0)) (.bin .sub (.lit 2147483648) (.var 0)) (.var 0))
def compDK31R : List Leaf := [
  ([(.bin .lt (.lit 2139095040) (.bin .emod (.var 0) (.lit 2147483648))), (.bin .eq (.var 5) (plcE3 (.var 1))), (.bin .eq (.var 4) (magE3 (.var 1))), (.bin .eq (.var 3) (plcE3 (.var 0))), (.bin .eq (.var 2) (magE3 (.var 0))), (.bin .le (.var 0) (.lit 4294967295)), (.bin .le (.var 1) (.lit 4294967295))], (.int .i64 (.lit 1))),
  ([(.bin .lt (.lit 2139095040) (.bin .emod (.var 1) (.lit 2147483648))), (.bin .le (.bin .emod (.var 0) (.lit 2147483648)) (.lit 2139095040)), (.bin .eq (.var 5) (plcE3 (.var 1))), (.bin .eq (.var 4) (magE3 (.var 1))), (.bin .eq (.var 3) (plcE3 (.var 0))), (.bin .eq (.var 2) (magE3 (.var 0))), (.bin .le (.var 0) (.lit 4294967295)), (.bin .le (.var 1) (.lit 4294967295))], (.int .i64 (.lit 1))),
  ([(.bin .lt compDK31Rz0 compDK31Rz1), (.bin .le compDK31Rz0 compDK31Rz1), (.bin .le (.bin .emod (.var 1) (.lit 2147483648)) (.lit 2139095040)), (.bin .le (.bin .emod (.var 0) (.lit 2147483648)) (.lit 2139095040)), (.bin .eq (.var 5) (plcE3 (.var 1))), (.bin .eq (.var 4) (magE3 (.var 1))), (.bin .eq (.var 3) (plcE3 (.var 0))), (.bin .eq (.var 2) (magE3 (.var 0))), (.bin .le (.var 0) (.lit 4294967295)), (.bin .le (.var 1) (.lit 4294967295))], (.int .i64 (.lit 1))),
  ([(.bin .le compDK31Rz1 compDK31Rz0), (.bin .le compDK31Rz0 compDK31Rz1), (.bin .le (.bin .emod (.var 1) (.lit 2147483648)) (.lit 2139095040)), (.bin .le (.bin .emod (.var 0) (.lit 2147483648)) (.lit 2139095040)), (.bin .eq (.var 5) (plcE3 (.var 1))), (.bin .eq (.var 4) (magE3 (.var 1))), (.bin .eq (.var 3) (plcE3 (.var 0))), (.bin .eq (.var 2) (magE3 (.var 0))), (.bin .le (.var 0) (.lit 4294967295)), (.bin .le (.var 1) (.lit 4294967295))], (.int .i64 (.lit 0))),
  ([(.bin .lt compDK31Rz1 compDK31Rz0), (.bin .le (.bin .emod (.var 1) (.lit 2147483648)) (.lit 2139095040)), (.bin .le (.bin .emod (.var 0) (.lit 2147483648)) (.lit 2139095040)), (.bin .eq (.var 5) (plcE3 (.var 1))), (.bin .eq (.var 4) (magE3 (.var 1))), (.bin .eq (.var 3) (plcE3 (.var 0))), (.bin .eq (.var 2) (magE3 (.var 0))), (.bin .le (.var 0) (.lit 4294967295)), (.bin .le (.var 1) (.lit 4294967295))], (.int .i64 (.lit 1))),
  ([(.bin .lt (.lit 2139095040) (.bin .emod (.var 0) (.lit 2147483648))), (.bin .eq (.var 5) (plcE3 (.var 1))), (.bin .eq (.var 4) (magE3 (.var 1))), (.bin .eq (.var 3) (plcE3 (.var 0))), (.bin .eq (.var 2) (magE3 (.var 0))), (.bin .le (.var 0) (.lit 4294967295)), (.bin .le (.var 1) (.lit 4294967295))], (.int .i64 (.lit 1))),
  ([(.bin .lt (.lit 2139095040) (.bin .emod (.var 1) (.lit 2147483648))), (.bin .le (.bin .emod (.var 0) (.lit 2147483648)) (.lit 2139095040)), (.bin .eq (.var 5) (plcE3 (.var 1))), (.bin .eq (.var 4) (magE3 (.var 1))), (.bin .eq (.var 3) (plcE3 (.var 0))), (.bin .eq (.var 2) (magE3 (.var 0))), (.bin .le (.var 0) (.lit 4294967295)), (.bin .le (.var 1) (.lit 4294967295))], (.int .i64 (.lit 1))),
  ([(.bin .lt compDK31Rz0 compDK31Rz1), (.bin .le compDK31Rz0 compDK31Rz1), (.bin .le (.bin .emod (.var 1) (.lit 2147483648)) (.lit 2139095040)), (.bin .le (.bin .emod (.var 0) (.lit 2147483648)) (.lit 2139095040)), (.bin .eq (.var 5) (plcE3 (.var 1))), (.bin .eq (.var 4) (magE3 (.var 1))), (.bin .eq (.var 3) (plcE3 (.var 0))), (.bin .eq (.var 2) (magE3 (.var 0))), (.bin .le (.var 0) (.lit 4294967295)), (.bin .le (.var 1) (.lit 4294967295))], (.int .i64 (.lit 1))),
  ([(.bin .le compDK31Rz1 compDK31Rz0), (.bin .le compDK31Rz0 compDK31Rz1), (.bin .le (.bin .emod (.var 1) (.lit 2147483648)) (.lit 2139095040)), (.bin .le (.bin .emod (.var 0) (.lit 2147483648)) (.lit 2139095040)), (.bin .eq (.var 5) (plcE3 (.var 1))), (.bin .eq (.var 4) (magE3 (.var 1))), (.bin .eq (.var 3) (plcE3 (.var 0))), (.bin .eq (.var 2) (magE3 (.var 0))), (.bin .le (.var 0) (.lit 4294967295)), (.bin .le (.var 1) (.lit 4294967295))], (.int .i64 (.lit 0))),
  ([(.bin .lt compDK31Rz1 compDK31Rz0), (.bin .le (.bin .emod (.var 1) (.lit 2147483648)) (.lit 2139095040)), (.bin .le (.bin .emod (.var 0) (.lit 2147483648)) (.lit 2139095040)), (.bin .eq (.var 5) (plcE3 (.var 1))), (.bin .eq (.var 4) (magE3 (.var 1))), (.bin .eq (.var 3) (plcE3 (.var 0))), (.bin .eq (.var 2) (magE3 (.var 0))), (.bin .le (.var 0) (.lit 4294967295)), (.bin .le (.var 1) (.lit 4294967295))], (.int .i64 (.lit 1)))]
set_option maxRecDepth 100000 in
theorem compDK31Ran : runOfG Try.prog (orcs (nameO (gOracle [apartD3])) (gOracle [lessD3])) noLoops (bodies fns) [] 4000 (compDK3 1) = some compDK31R := by kernel_rfl
def compDK32R : List Leaf := [
  ([(.bin .lt (.lit 2139095040) (.bin .emod (.var 0) (.lit 2147483648))), (.bin .eq (.var 5) (plcE3 (.var 1))), (.bin .eq (.var 4) (magE3 (.var 1))), (.bin .eq (.var 3) (plcE3 (.var 0))), (.bin .eq (.var 2) (magE3 (.var 0))), (.bin .le (.var 0) (.lit 4294967295)), (.bin .le (.var 1) (.lit 4294967295))], (.int .i64 (.lit 0))),
  ([(.bin .lt (.lit 2139095040) (.bin .emod (.var 1) (.lit 2147483648))), (.bin .le (.bin .emod (.var 0) (.lit 2147483648)) (.lit 2139095040)), (.bin .eq (.var 5) (plcE3 (.var 1))), (.bin .eq (.var 4) (magE3 (.var 1))), (.bin .eq (.var 3) (plcE3 (.var 0))), (.bin .eq (.var 2) (magE3 (.var 0))), (.bin .le (.var 0) (.lit 4294967295)), (.bin .le (.var 1) (.lit 4294967295))], (.int .i64 (.lit 0))),
  ([(.bin .le (.ite (.bin .le (.lit 2147483648) (.var 1)) (.bin .sub (.lit 2147483648) (.var 1)) (.var 1)) (.ite (.bin .le (.lit 2147483648) (.var 0)) (.bin .sub (.lit 2147483648) (.var 0)) (.var 0))), (.bin .le (.bin .emod (.var 1) (.lit 2147483648)) (.lit 2139095040)), (.bin .le (.bin .emod (.var 0) (.lit 2147483648)) (.lit 2139095040)), (.bin .eq (.var 5) (plcE3 (.var 1))), (.bin .eq (.var 4) (magE3 (.var 1))), (.bin .eq (.var 3) (plcE3 (.var 0))), (.bin .eq (.var 2) (magE3 (.var 0))), (.bin .le (.var 0) (.lit 4294967295)), (.bin .le (.var 1) (.lit 4294967295))], (.int .i64 (.lit 0))),
  ([(.bin .lt (.ite (.bin .le (.lit 2147483648) (.var 0)) (.bin .sub (.lit 2147483648) (.var 0)) (.var 0)) (.ite (.bin .le (.lit 2147483648) (.var 1)) (.bin .sub (.lit 2147483648) (.var 1)) (.var 1))), (.bin .le (.bin .emod (.var 1) (.lit 2147483648)) (.lit 2139095040)), (.bin .le (.bin .emod (.var 0) (.lit 2147483648)) (.lit 2139095040)), (.bin .eq (.var 5) (plcE3 (.var 1))), (.bin .eq (.var 4) (magE3 (.var 1))), (.bin .eq (.var 3) (plcE3 (.var 0))), (.bin .eq (.var 2) (magE3 (.var 0))), (.bin .le (.var 0) (.lit 4294967295)), (.bin .le (.var 1) (.lit 4294967295))], (.int .i64 (.lit 1))),
  ([(.bin .lt (.lit 2139095040) (.bin .emod (.var 0) (.lit 2147483648))), (.bin .eq (.var 5) (plcE3 (.var 1))), (.bin .eq (.var 4) (magE3 (.var 1))), (.bin .eq (.var 3) (plcE3 (.var 0))), (.bin .eq (.var 2) (magE3 (.var 0))), (.bin .le (.var 0) (.lit 4294967295)), (.bin .le (.var 1) (.lit 4294967295))], (.int .i64 (.lit 0))),
  ([(.bin .lt (.lit 2139095040) (.bin .emod (.var 1) (.lit 2147483648))), (.bin .le (.bin .emod (.var 0) (.lit 2147483648)) (.lit 2139095040)), (.bin .eq (.var 5) (plcE3 (.var 1))), (.bin .eq (.var 4) (magE3 (.var 1))), (.bin .eq (.var 3) (plcE3 (.var 0))), (.bin .eq (.var 2) (magE3 (.var 0))), (.bin .le (.var 0) (.lit 4294967295)), (.bin .le (.var 1) (.lit 4294967295))], (.int .i64 (.lit 0))),
  ([(.bin .le (.ite (.bin .le (.lit 2147483648) (.var 1)) (.bin .sub (.lit 2147483648) (.var 1)) (.var 1)) (.ite (.bin .le (.lit 2147483648) (.var 0)) (.bin .sub (.lit 2147483648) (.var 0)) (.var 0))), (.bin .le (.bin .emod (.var 1) (.lit 2147483648)) (.lit 2139095040)), (.bin .le (.bin .emod (.var 0) (.lit 2147483648)) (.lit 2139095040)), (.bin .eq (.var 5) (plcE3 (.var 1))), (.bin .eq (.var 4) (magE3 (.var 1))), (.bin .eq (.var 3) (plcE3 (.var 0))), (.bin .eq (.var 2) (magE3 (.var 0))), (.bin .le (.var 0) (.lit 4294967295)), (.bin .le (.var 1) (.lit 4294967295))], (.int .i64 (.lit 0))),
  ([(.bin .lt (.ite (.bin .le (.lit 2147483648) (.var 0)) (.bin .sub (.lit 2147483648) (.var 0)) (.var 0)) (.ite (.bin .le (.lit 2147483648) (.var 1)) (.bin .sub (.lit 2147483648) (.var 1)) (.var 1))), (.bin .le (.bin .emod (.var 1) (.lit 2147483648)) (.lit 2139095040)), (.bin .le (.bin .emod (.var 0) (.lit 2147483648)) (.lit 2139095040)), (.bin .eq (.var 5) (plcE3 (.var 1))), (.bin .eq (.var 4) (magE3 (.var 1))), (.bin .eq (.var 3) (plcE3 (.var 0))), (.bin .eq (.var 2) (magE3 (.var 0))), (.bin .le (.var 0) (.lit 4294967295)), (.bin .le (.var 1) (.lit 4294967295))], (.int .i64 (.lit 1)))]
set_option maxRecDepth 100000 in
theorem compDK32Ran : runOfG Try.prog (orcs (nameO (gOracle [apartD3])) (gOracle [lessD3])) noLoops (bodies fns) [] 4000 (compDK3 2) = some compDK32R := by kernel_rfl
def compDK33Rz0 : E := (.ite (.bin .le (.lit 2147483648) (.var 1)) (.bin .sub (.lit 2147483648) (.var 1)) (.var 1))
def compDK33Rz1 : E := (.ite (.bin .le (.lit 2147483648) (.var 0)) (.bin .sub (.lit 2147483648) (.var 0)) (.var 0))
def compDK33R : List Leaf := [
  ([(.bin .lt (.lit 2139095040) (.bin .emod (.var 0) (.lit 2147483648))), (.bin .eq (.var 5) (plcE3 (.var 1))), (.bin .eq (.var 4) (magE3 (.var 1))), (.bin .eq (.var 3) (plcE3 (.var 0))), (.bin .eq (.var 2) (magE3 (.var 0))), (.bin .le (.var 0) (.lit 4294967295)), (.bin .le (.var 1) (.lit 4294967295))], (.int .i64 (.lit 0))),
  ([(.bin .lt (.lit 2139095040) (.bin .emod (.var 1) (.lit 2147483648))), (.bin .le (.bin .emod (.var 0) (.lit 2147483648)) (.lit 2139095040)), (.bin .eq (.var 5) (plcE3 (.var 1))), (.bin .eq (.var 4) (magE3 (.var 1))), (.bin .eq (.var 3) (plcE3 (.var 0))), (.bin .eq (.var 2) (magE3 (.var 0))), (.bin .le (.var 0) (.lit 4294967295)), (.bin .le (.var 1) (.lit 4294967295))], (.int .i64 (.lit 0))),
  ([(.bin .lt compDK33Rz0 compDK33Rz1), (.bin .le compDK33Rz0 compDK33Rz1), (.bin .le (.bin .emod (.var 1) (.lit 2147483648)) (.lit 2139095040)), (.bin .le (.bin .emod (.var 0) (.lit 2147483648)) (.lit 2139095040)), (.bin .eq (.var 5) (plcE3 (.var 1))), (.bin .eq (.var 4) (magE3 (.var 1))), (.bin .eq (.var 3) (plcE3 (.var 0))), (.bin .eq (.var 2) (magE3 (.var 0))), (.bin .le (.var 0) (.lit 4294967295)), (.bin .le (.var 1) (.lit 4294967295))], (.int .i64 (.lit 1))),
  ([(.bin .le compDK33Rz1 compDK33Rz0), (.bin .le compDK33Rz0 compDK33Rz1), (.bin .le (.bin .emod (.var 1) (.lit 2147483648)) (.lit 2139095040)), (.bin .le (.bin .emod (.var 0) (.lit 2147483648)) (.lit 2139095040)), (.bin .eq (.var 5) (plcE3 (.var 1))), (.bin .eq (.var 4) (magE3 (.var 1))), (.bin .eq (.var 3) (plcE3 (.var 0))), (.bin .eq (.var 2) (magE3 (.var 0))), (.bin .le (.var 0) (.lit 4294967295)), (.bin .le (.var 1) (.lit 4294967295))], (.int .i64 (.lit 0))),
  ([(.bin .lt compDK33Rz0 compDK33Rz1), (.bin .lt compDK33Rz1 compDK33Rz0), (.bin .le (.bin .emod (.var 1) (.lit 2147483648)) (.lit 2139095040)), (.bin .le (.bin .emod (.var 0) (.lit 2147483648)) (.lit 2139095040)), (.bin .eq (.var 5) (plcE3 (.var 1))), (.bin .eq (.var 4) (magE3 (.var 1))), (.bin .eq (.var 3) (plcE3 (.var 0))), (.bin .eq (.var 2) (magE3 (.var 0))), (.bin .le (.var 0) (.lit 4294967295)), (.bin .le (.var 1) (.lit 4294967295))], (.int .i64 (.lit 1))),
  ([(.bin .le compDK33Rz1 compDK33Rz0), (.bin .lt compDK33Rz1 compDK33Rz0), (.bin .le (.bin .emod (.var 1) (.lit 2147483648)) (.lit 2139095040)), (.bin .le (.bin .emod (.var 0) (.lit 2147483648)) (.lit 2139095040)), (.bin .eq (.var 5) (plcE3 (.var 1))), (.bin .eq (.var 4) (magE3 (.var 1))), (.bin .eq (.var 3) (plcE3 (.var 0))), (.bin .eq (.var 2) (magE3 (.var 0))), (.bin .le (.var 0) (.lit 4294967295)), (.bin .le (.var 1) (.lit 4294967295))], (.int .i64 (.lit 0))),
  ([(.bin .lt (.lit 2139095040) (.bin .emod (.var 0) (.lit 2147483648))), (.bin .eq (.var 5) (plcE3 (.var 1))), (.bin .eq (.var 4) (magE3 (.var 1))), (.bin .eq (.var 3) (plcE3 (.var 0))), (.bin .eq (.var 2) (magE3 (.var 0))), (.bin .le (.var 0) (.lit 4294967295)), (.bin .le (.var 1) (.lit 4294967295))], (.int .i64 (.lit 0))),
  ([(.bin .lt (.lit 2139095040) (.bin .emod (.var 1) (.lit 2147483648))), (.bin .le (.bin .emod (.var 0) (.lit 2147483648)) (.lit 2139095040)), (.bin .eq (.var 5) (plcE3 (.var 1))), (.bin .eq (.var 4) (magE3 (.var 1))), (.bin .eq (.var 3) (plcE3 (.var 0))), (.bin .eq (.var 2) (magE3 (.var 0))), (.bin .le (.var 0) (.lit 4294967295)), (.bin .le (.var 1) (.lit 4294967295))], (.int .i64 (.lit 0))),
  ([(.bin .lt compDK33Rz0 compDK33Rz1), (.bin .le compDK33Rz0 compDK33Rz1), (.bin .le (.bin .emod (.var 1) (.lit 2147483648)) (.lit 2139095040)), (.bin .le (.bin .emod (.var 0) (.lit 2147483648)) (.lit 2139095040)), (.bin .eq (.var 5) (plcE3 (.var 1))), (.bin .eq (.var 4) (magE3 (.var 1))), (.bin .eq (.var 3) (plcE3 (.var 0))), (.bin .eq (.var 2) (magE3 (.var 0))), (.bin .le (.var 0) (.lit 4294967295)), (.bin .le (.var 1) (.lit 4294967295))], (.int .i64 (.lit 1))),
  ([(.bin .le compDK33Rz1 compDK33Rz0), (.bin .le compDK33Rz0 compDK33Rz1), (.bin .le (.bin .emod (.var 1) (.lit 2147483648)) (.lit 2139095040)), (.bin .le (.bin .emod (.var 0) (.lit 2147483648)) (.lit 2139095040)), (.bin .eq (.var 5) (plcE3 (.var 1))), (.bin .eq (.var 4) (magE3 (.var 1))), (.bin .eq (.var 3) (plcE3 (.var 0))), (.bin .eq (.var 2) (magE3 (.var 0))), (.bin .le (.var 0) (.lit 4294967295)), (.bin .le (.var 1) (.lit 4294967295))], (.int .i64 (.lit 0))),
  ([(.bin .lt compDK33Rz0 compDK33Rz1), (.bin .lt compDK33Rz1 compDK33Rz0), (.bin .le (.bin .emod (.var 1) (.lit 2147483648)) (.lit 2139095040)), (.bin .le (.bin .emod (.var 0) (.lit 2147483648)) (.lit 2139095040)), (.bin .eq (.var 5) (plcE3 (.var 1))), (.bin .eq (.var 4) (magE3 (.var 1))), (.bin .eq (.var 3) (plcE3 (.var 0))), (.bin .eq (.var 2) (magE3 (.var 0))), (.bin .le (.var 0) (.lit 4294967295)), (.bin .le (.var 1) (.lit 4294967295))], (.int .i64 (.lit 1))),
  ([(.bin .le compDK33Rz1 compDK33Rz0), (.bin .lt compDK33Rz1 compDK33Rz0), (.bin .le (.bin .emod (.var 1) (.lit 2147483648)) (.lit 2139095040)), (.bin .le (.bin .emod (.var 0) (.lit 2147483648)) (.lit 2139095040)), (.bin .eq (.var 5) (plcE3 (.var 1))), (.bin .eq (.var 4) (magE3 (.var 1))), (.bin .eq (.var 3) (plcE3 (.var 0))), (.bin .eq (.var 2) (magE3 (.var 0))), (.bin .le (.var 0) (.lit 4294967295)), (.bin .le (.var 1) (.lit 4294967295))], (.int .i64 (.lit 0)))]
set_option maxRecDepth 100000 in
theorem compDK33Ran : runOfG Try.prog (orcs (nameO (gOracle [apartD3])) (gOracle [lessD3])) noLoops (bodies fns) [] 4000 (compDK3 3) = some compDK33R := by kernel_rfl
def compDK34Rz0 : E := (.ite (.bin .le (.lit 2147483648) (.var 1)) (.bin .sub (.lit 2147483648) (.var 1)) (.var 1))
def compDK34Rz1 : E := (.ite (.bin .le (.lit 2147483648) (.var 0)) (.bin .sub (.lit 2147483648) (.var 0)) (.var 0))
def compDK34R : List Leaf := [
  ([(.bin .lt (.lit 2139095040) (.bin .emod (.var 0) (.lit 2147483648))), (.bin .eq (.var 5) (plcE3 (.var 1))), (.bin .eq (.var 4) (magE3 (.var 1))), (.bin .eq (.var 3) (plcE3 (.var 0))), (.bin .eq (.var 2) (magE3 (.var 0))), (.bin .le (.var 0) (.lit 4294967295)), (.bin .le (.var 1) (.lit 4294967295))], (.int .i64 (.lit 0))),
  ([(.bin .lt (.lit 2139095040) (.bin .emod (.var 1) (.lit 2147483648))), (.bin .le (.bin .emod (.var 0) (.lit 2147483648)) (.lit 2139095040)), (.bin .eq (.var 5) (plcE3 (.var 1))), (.bin .eq (.var 4) (magE3 (.var 1))), (.bin .eq (.var 3) (plcE3 (.var 0))), (.bin .eq (.var 2) (magE3 (.var 0))), (.bin .le (.var 0) (.lit 4294967295)), (.bin .le (.var 1) (.lit 4294967295))], (.int .i64 (.lit 0))),
  ([(.bin .le compDK34Rz1 compDK34Rz0), (.bin .le compDK34Rz0 compDK34Rz1), (.bin .le (.bin .emod (.var 1) (.lit 2147483648)) (.lit 2139095040)), (.bin .le (.bin .emod (.var 0) (.lit 2147483648)) (.lit 2139095040)), (.bin .eq (.var 5) (plcE3 (.var 1))), (.bin .eq (.var 4) (magE3 (.var 1))), (.bin .eq (.var 3) (plcE3 (.var 0))), (.bin .eq (.var 2) (magE3 (.var 0))), (.bin .le (.var 0) (.lit 4294967295)), (.bin .le (.var 1) (.lit 4294967295))], (.int .i64 (.lit 1))),
  ([(.bin .lt compDK34Rz0 compDK34Rz1), (.bin .le compDK34Rz0 compDK34Rz1), (.bin .le (.bin .emod (.var 1) (.lit 2147483648)) (.lit 2139095040)), (.bin .le (.bin .emod (.var 0) (.lit 2147483648)) (.lit 2139095040)), (.bin .eq (.var 5) (plcE3 (.var 1))), (.bin .eq (.var 4) (magE3 (.var 1))), (.bin .eq (.var 3) (plcE3 (.var 0))), (.bin .eq (.var 2) (magE3 (.var 0))), (.bin .le (.var 0) (.lit 4294967295)), (.bin .le (.var 1) (.lit 4294967295))], (.int .i64 (.lit 0))),
  ([(.bin .le compDK34Rz1 compDK34Rz0), (.bin .lt compDK34Rz1 compDK34Rz0), (.bin .le (.bin .emod (.var 1) (.lit 2147483648)) (.lit 2139095040)), (.bin .le (.bin .emod (.var 0) (.lit 2147483648)) (.lit 2139095040)), (.bin .eq (.var 5) (plcE3 (.var 1))), (.bin .eq (.var 4) (magE3 (.var 1))), (.bin .eq (.var 3) (plcE3 (.var 0))), (.bin .eq (.var 2) (magE3 (.var 0))), (.bin .le (.var 0) (.lit 4294967295)), (.bin .le (.var 1) (.lit 4294967295))], (.int .i64 (.lit 1))),
  ([(.bin .lt compDK34Rz0 compDK34Rz1), (.bin .lt compDK34Rz1 compDK34Rz0), (.bin .le (.bin .emod (.var 1) (.lit 2147483648)) (.lit 2139095040)), (.bin .le (.bin .emod (.var 0) (.lit 2147483648)) (.lit 2139095040)), (.bin .eq (.var 5) (plcE3 (.var 1))), (.bin .eq (.var 4) (magE3 (.var 1))), (.bin .eq (.var 3) (plcE3 (.var 0))), (.bin .eq (.var 2) (magE3 (.var 0))), (.bin .le (.var 0) (.lit 4294967295)), (.bin .le (.var 1) (.lit 4294967295))], (.int .i64 (.lit 0))),
  ([(.bin .lt (.lit 2139095040) (.bin .emod (.var 0) (.lit 2147483648))), (.bin .eq (.var 5) (plcE3 (.var 1))), (.bin .eq (.var 4) (magE3 (.var 1))), (.bin .eq (.var 3) (plcE3 (.var 0))), (.bin .eq (.var 2) (magE3 (.var 0))), (.bin .le (.var 0) (.lit 4294967295)), (.bin .le (.var 1) (.lit 4294967295))], (.int .i64 (.lit 0))),
  ([(.bin .lt (.lit 2139095040) (.bin .emod (.var 1) (.lit 2147483648))), (.bin .le (.bin .emod (.var 0) (.lit 2147483648)) (.lit 2139095040)), (.bin .eq (.var 5) (plcE3 (.var 1))), (.bin .eq (.var 4) (magE3 (.var 1))), (.bin .eq (.var 3) (plcE3 (.var 0))), (.bin .eq (.var 2) (magE3 (.var 0))), (.bin .le (.var 0) (.lit 4294967295)), (.bin .le (.var 1) (.lit 4294967295))], (.int .i64 (.lit 0))),
  ([(.bin .le compDK34Rz1 compDK34Rz0), (.bin .le compDK34Rz0 compDK34Rz1), (.bin .le (.bin .emod (.var 1) (.lit 2147483648)) (.lit 2139095040)), (.bin .le (.bin .emod (.var 0) (.lit 2147483648)) (.lit 2139095040)), (.bin .eq (.var 5) (plcE3 (.var 1))), (.bin .eq (.var 4) (magE3 (.var 1))), (.bin .eq (.var 3) (plcE3 (.var 0))), (.bin .eq (.var 2) (magE3 (.var 0))), (.bin .le (.var 0) (.lit 4294967295)), (.bin .le (.var 1) (.lit 4294967295))], (.int .i64 (.lit 1))),
  ([(.bin .lt compDK34Rz0 compDK34Rz1), (.bin .le compDK34Rz0 compDK34Rz1), (.bin .le (.bin .emod (.var 1) (.lit 2147483648)) (.lit 2139095040)), (.bin .le (.bin .emod (.var 0) (.lit 2147483648)) (.lit 2139095040)), (.bin .eq (.var 5) (plcE3 (.var 1))), (.bin .eq (.var 4) (magE3 (.var 1))), (.bin .eq (.var 3) (plcE3 (.var 0))), (.bin .eq (.var 2) (magE3 (.var 0))), (.bin .le (.var 0) (.lit 4294967295)), (.bin .le (.var 1) (.lit 4294967295))], (.int .i64 (.lit 0))),
  ([(.bin .le compDK34Rz1 compDK34Rz0), (.bin .lt compDK34Rz1 compDK34Rz0), (.bin .le (.bin .emod (.var 1) (.lit 2147483648)) (.lit 2139095040)), (.bin .le (.bin .emod (.var 0) (.lit 2147483648)) (.lit 2139095040)), (.bin .eq (.var 5) (plcE3 (.var 1))), (.bin .eq (.var 4) (magE3 (.var 1))), (.bin .eq (.var 3) (plcE3 (.var 0))), (.bin .eq (.var 2) (magE3 (.var 0))), (.bin .le (.var 0) (.lit 4294967295)), (.bin .le (.var 1) (.lit 4294967295))], (.int .i64 (.lit 1))),
  ([(.bin .lt compDK34Rz0 compDK34Rz1), (.bin .lt compDK34Rz1 compDK34Rz0), (.bin .le (.bin .emod (.var 1) (.lit 2147483648)) (.lit 2139095040)), (.bin .le (.bin .emod (.var 0) (.lit 2147483648)) (.lit 2139095040)), (.bin .eq (.var 5) (plcE3 (.var 1))), (.bin .eq (.var 4) (magE3 (.var 1))), (.bin .eq (.var 3) (plcE3 (.var 0))), (.bin .eq (.var 2) (magE3 (.var 0))), (.bin .le (.var 0) (.lit 4294967295)), (.bin .le (.var 1) (.lit 4294967295))], (.int .i64 (.lit 0)))]
set_option maxRecDepth 100000 in
theorem compDK34Ran : runOfG Try.prog (orcs (nameO (gOracle [apartD3])) (gOracle [lessD3])) noLoops (bodies fns) [] 4000 (compDK3 4) = some compDK34R := by kernel_rfl
def compDK35R : List Leaf := [
  ([(.bin .lt (.lit 2139095040) (.bin .emod (.var 0) (.lit 2147483648))), (.bin .eq (.var 5) (plcE3 (.var 1))), (.bin .eq (.var 4) (magE3 (.var 1))), (.bin .eq (.var 3) (plcE3 (.var 0))), (.bin .eq (.var 2) (magE3 (.var 0))), (.bin .le (.var 0) (.lit 4294967295)), (.bin .le (.var 1) (.lit 4294967295))], (.int .i64 (.lit 0))),
  ([(.bin .lt (.lit 2139095040) (.bin .emod (.var 1) (.lit 2147483648))), (.bin .le (.bin .emod (.var 0) (.lit 2147483648)) (.lit 2139095040)), (.bin .eq (.var 5) (plcE3 (.var 1))), (.bin .eq (.var 4) (magE3 (.var 1))), (.bin .eq (.var 3) (plcE3 (.var 0))), (.bin .eq (.var 2) (magE3 (.var 0))), (.bin .le (.var 0) (.lit 4294967295)), (.bin .le (.var 1) (.lit 4294967295))], (.int .i64 (.lit 0))),
  ([(.bin .le (.ite (.bin .le (.lit 2147483648) (.var 1)) (.bin .sub (.lit 2147483648) (.var 1)) (.var 1)) (.ite (.bin .le (.lit 2147483648) (.var 0)) (.bin .sub (.lit 2147483648) (.var 0)) (.var 0))), (.bin .le (.bin .emod (.var 1) (.lit 2147483648)) (.lit 2139095040)), (.bin .le (.bin .emod (.var 0) (.lit 2147483648)) (.lit 2139095040)), (.bin .eq (.var 5) (plcE3 (.var 1))), (.bin .eq (.var 4) (magE3 (.var 1))), (.bin .eq (.var 3) (plcE3 (.var 0))), (.bin .eq (.var 2) (magE3 (.var 0))), (.bin .le (.var 0) (.lit 4294967295)), (.bin .le (.var 1) (.lit 4294967295))], (.int .i64 (.lit 1))),
  ([(.bin .lt (.ite (.bin .le (.lit 2147483648) (.var 0)) (.bin .sub (.lit 2147483648) (.var 0)) (.var 0)) (.ite (.bin .le (.lit 2147483648) (.var 1)) (.bin .sub (.lit 2147483648) (.var 1)) (.var 1))), (.bin .le (.bin .emod (.var 1) (.lit 2147483648)) (.lit 2139095040)), (.bin .le (.bin .emod (.var 0) (.lit 2147483648)) (.lit 2139095040)), (.bin .eq (.var 5) (plcE3 (.var 1))), (.bin .eq (.var 4) (magE3 (.var 1))), (.bin .eq (.var 3) (plcE3 (.var 0))), (.bin .eq (.var 2) (magE3 (.var 0))), (.bin .le (.var 0) (.lit 4294967295)), (.bin .le (.var 1) (.lit 4294967295))], (.int .i64 (.lit 0))),
  ([(.bin .lt (.lit 2139095040) (.bin .emod (.var 0) (.lit 2147483648))), (.bin .eq (.var 5) (plcE3 (.var 1))), (.bin .eq (.var 4) (magE3 (.var 1))), (.bin .eq (.var 3) (plcE3 (.var 0))), (.bin .eq (.var 2) (magE3 (.var 0))), (.bin .le (.var 0) (.lit 4294967295)), (.bin .le (.var 1) (.lit 4294967295))], (.int .i64 (.lit 0))),
  ([(.bin .lt (.lit 2139095040) (.bin .emod (.var 1) (.lit 2147483648))), (.bin .le (.bin .emod (.var 0) (.lit 2147483648)) (.lit 2139095040)), (.bin .eq (.var 5) (plcE3 (.var 1))), (.bin .eq (.var 4) (magE3 (.var 1))), (.bin .eq (.var 3) (plcE3 (.var 0))), (.bin .eq (.var 2) (magE3 (.var 0))), (.bin .le (.var 0) (.lit 4294967295)), (.bin .le (.var 1) (.lit 4294967295))], (.int .i64 (.lit 0))),
  ([(.bin .le (.ite (.bin .le (.lit 2147483648) (.var 1)) (.bin .sub (.lit 2147483648) (.var 1)) (.var 1)) (.ite (.bin .le (.lit 2147483648) (.var 0)) (.bin .sub (.lit 2147483648) (.var 0)) (.var 0))), (.bin .le (.bin .emod (.var 1) (.lit 2147483648)) (.lit 2139095040)), (.bin .le (.bin .emod (.var 0) (.lit 2147483648)) (.lit 2139095040)), (.bin .eq (.var 5) (plcE3 (.var 1))), (.bin .eq (.var 4) (magE3 (.var 1))), (.bin .eq (.var 3) (plcE3 (.var 0))), (.bin .eq (.var 2) (magE3 (.var 0))), (.bin .le (.var 0) (.lit 4294967295)), (.bin .le (.var 1) (.lit 4294967295))], (.int .i64 (.lit 1))),
  ([(.bin .lt (.ite (.bin .le (.lit 2147483648) (.var 0)) (.bin .sub (.lit 2147483648) (.var 0)) (.var 0)) (.ite (.bin .le (.lit 2147483648) (.var 1)) (.bin .sub (.lit 2147483648) (.var 1)) (.var 1))), (.bin .le (.bin .emod (.var 1) (.lit 2147483648)) (.lit 2139095040)), (.bin .le (.bin .emod (.var 0) (.lit 2147483648)) (.lit 2139095040)), (.bin .eq (.var 5) (plcE3 (.var 1))), (.bin .eq (.var 4) (magE3 (.var 1))), (.bin .eq (.var 3) (plcE3 (.var 0))), (.bin .eq (.var 2) (magE3 (.var 0))), (.bin .le (.var 0) (.lit 4294967295)), (.bin .le (.var 1) (.lit 4294967295))], (.int .i64 (.lit 0)))]
set_option maxRecDepth 100000 in
theorem compDK35Ran : runOfG Try.prog (orcs (nameO (gOracle [apartD3])) (gOracle [lessD3])) noLoops (bodies fns) [] 4000 (compDK3 5) = some compDK35R := by kernel_rfl
end Go.Proofs.Ytnodelimomljbaa.RunRefF3

/- The ways of the reference's single floats through numbers, and that the code takes no other. No condition. -/
namespace Go.Proofs.Ytnodelimomljbaa.RunRefD3
open Go Go.Sx Go.Sx.Flt Go.Sx.Ref

def quoD3Rz0 : E := (.bin .add (.bin .mul (.bin .ediv (.bin (.shl .u64) (.var 3) (.bin .sub (.lit 64) (.fn 0 (.var 3) (.lit 0) (.lit 0)))) (.lit 2)) (.lit 18446744073709551616)) (.un (.wrap .u64) (.bin .mul (.bin (.shl .u64) (.var 3) (.bin .sub (.lit 64) (.fn 0 (.var 3) (.lit 0) (.lit 0)))) (.lit 9223372036854775808))))
def quoD3Rz1 : E := (.bin .add (.bin .mul (.bin (.shl .u64) (.var 8) (.bin .sub (.lit 64) (.fn 0 (.var 8) (.lit 0) (.lit 0)))) (.lit 128)) (.lit 64))
def quoD3Rz2 : E := (.ite (.un .bnot (.bin .eq (.un .bnot (.un .bnot (.var 0))) (.un .bnot (.un .bnot (.var 5))))) (.lit 2147483648) (.lit 0))
def quoD3Rz3 : E := (.bin .add (.bin .sub (.bin .sub (.var 4) (.bin .sub (.lit 64) (.fn 0 (.var 3) (.lit 0) (.lit 0)))) (.bin .sub (.var 9) (.bin .sub (.lit 64) (.fn 0 (.var 8) (.lit 0) (.lit 0))))) (.lit (-64)))
def quoD3R : List Leaf := [
  ([(.var 2), (.bin .le (.lit 0) (.var 3)), (.bin .le (.var 3) (.lit 16777215)), (.bin .le (.lit (-149)) (.var 4)), (.bin .le (.var 4) (.lit 104)), (.bin .le (.lit 0) (.var 8)), (.bin .le (.var 8) (.lit 16777215)), (.bin .le (.lit (-149)) (.var 9)), (.bin .le (.var 9) (.lit 104))], (.int .u64 (.lit 2143289344))),
  ([(.var 7), (.un .bnot (.var 2)), (.bin .le (.lit 0) (.var 3)), (.bin .le (.var 3) (.lit 16777215)), (.bin .le (.lit (-149)) (.var 4)), (.bin .le (.var 4) (.lit 104)), (.bin .le (.lit 0) (.var 8)), (.bin .le (.var 8) (.lit 16777215)), (.bin .le (.lit (-149)) (.var 9)), (.bin .le (.var 9) (.lit 104))], (.int .u64 (.lit 2143289344))),
  ([(.var 6), (.var 1), (.un .bnot (.var 7)), (.un .bnot (.var 2)), (.bin .le (.lit 0) (.var 3)), (.bin .le (.var 3) (.lit 16777215)), (.bin .le (.lit (-149)) (.var 4)), (.bin .le (.var 4) (.lit 104)), (.bin .le (.lit 0) (.var 8)), (.bin .le (.var 8) (.lit 16777215)), (.bin .le (.lit (-149)) (.var 9)), (.bin .le (.var 9) (.lit 104))], (.int .u64 (.lit 2143289344))),
  ([(.un .bnot (.var 6)), (.var 1), (.un .bnot (.var 7)), (.un .bnot (.var 2)), (.bin .le (.lit 0) (.var 3)), (.bin .le (.var 3) (.lit 16777215)), (.bin .le (.lit (-149)) (.var 4)), (.bin .le (.var 4) (.lit 104)), (.bin .le (.lit 0) (.var 8)), (.bin .le (.var 8) (.lit 16777215)), (.bin .le (.lit (-149)) (.var 9)), (.bin .le (.var 9) (.lit 104))], (.int .u64 (.ite (.un .bnot (.bin .eq (.un .bnot (.un .bnot (.var 0))) (.un .bnot (.un .bnot (.var 5))))) (.lit 4286578688) (.lit 2139095040)))),
  ([(.bin .eq (.var 8) (.lit 0)), (.bin .eq (.var 3) (.lit 0)), (.un .bnot (.var 6)), (.un .bnot (.var 1)), (.un .bnot (.var 7)), (.un .bnot (.var 2)), (.bin .le (.lit 0) (.var 3)), (.bin .le (.var 3) (.lit 16777215)), (.bin .le (.lit (-149)) (.var 4)), (.bin .le (.var 4) (.lit 104)), (.bin .le (.lit 0) (.var 8)), (.bin .le (.var 8) (.lit 16777215)), (.bin .le (.lit (-149)) (.var 9)), (.bin .le (.var 9) (.lit 104))], (.int .u64 (.lit 2143289344))),
  ([(.un .bnot (.bin .eq (.var 8) (.lit 0))), (.bin .eq (.var 3) (.lit 0)), (.un .bnot (.var 6)), (.un .bnot (.var 1)), (.un .bnot (.var 7)), (.un .bnot (.var 2)), (.bin .le (.lit 0) (.var 3)), (.bin .le (.var 3) (.lit 16777215)), (.bin .le (.lit (-149)) (.var 4)), (.bin .le (.var 4) (.lit 104)), (.bin .le (.lit 0) (.var 8)), (.bin .le (.var 8) (.lit 16777215)), (.bin .le (.lit (-149)) (.var 9)), (.bin .le (.var 9) (.lit 104))], (.int .u64 quoD3Rz2)),
  ([(.bin .eq (.var 8) (.lit 0)), (.un .bnot (.bin .eq (.var 3) (.lit 0))), (.un .bnot (.var 6)), (.un .bnot (.var 1)), (.un .bnot (.var 7)), (.un .bnot (.var 2)), (.bin .le (.lit 0) (.var 3)), (.bin .le (.var 3) (.lit 16777215)), (.bin .le (.lit (-149)) (.var 4)), (.bin .le (.var 4) (.lit 104)), (.bin .le (.lit 0) (.var 8)), (.bin .le (.var 8) (.lit 16777215)), (.bin .le (.lit (-149)) (.var 9)), (.bin .le (.var 9) (.lit 104))], (.int .u64 (.ite (.un .bnot (.bin .eq (.un .bnot (.un .bnot (.var 0))) (.un .bnot (.un .bnot (.var 5))))) (.lit 4286578688) (.lit 2139095040)))),
  ([(.un .bnot (.bin .eq (.fn 13 (.lit 0) quoD3Rz0 quoD3Rz1) (.lit 0))), (.un .bnot (.bin .eq (.var 8) (.lit 0))), (.un .bnot (.bin .eq (.var 3) (.lit 0))), (.un .bnot (.var 6)), (.un .bnot (.var 1)), (.un .bnot (.var 7)), (.un .bnot (.var 2)), (.bin .le (.lit 0) (.var 3)), (.bin .le (.var 3) (.lit 16777215)), (.bin .le (.lit (-149)) (.var 4)), (.bin .le (.var 4) (.lit 104)), (.bin .le (.lit 0) (.var 8)), (.bin .le (.var 8) (.lit 16777215)), (.bin .le (.lit (-149)) (.var 9)), (.bin .le (.var 9) (.lit 104))], (.int .u64 (.bin .add quoD3Rz2 (.fn 5 (.bin .add (.bin .mul (.bin .ediv (.fn 12 (.lit 0) quoD3Rz0 quoD3Rz1) (.lit 9223372036854775808)) (.lit 18446744073709551616)) (.bin (.bits .or .u64) (.un (.wrap .u64) (.bin .mul (.fn 12 (.lit 0) quoD3Rz0 quoD3Rz1) (.lit 2))) (.lit 1))) quoD3Rz3 (.lit 0))))),
  ([(.bin .eq (.fn 13 (.lit 0) quoD3Rz0 quoD3Rz1) (.lit 0)), (.un .bnot (.bin .eq (.var 8) (.lit 0))), (.un .bnot (.bin .eq (.var 3) (.lit 0))), (.un .bnot (.var 6)), (.un .bnot (.var 1)), (.un .bnot (.var 7)), (.un .bnot (.var 2)), (.bin .le (.lit 0) (.var 3)), (.bin .le (.var 3) (.lit 16777215)), (.bin .le (.lit (-149)) (.var 4)), (.bin .le (.var 4) (.lit 104)), (.bin .le (.lit 0) (.var 8)), (.bin .le (.var 8) (.lit 16777215)), (.bin .le (.lit (-149)) (.var 9)), (.bin .le (.var 9) (.lit 104))], (.int .u64 (.bin .add quoD3Rz2 (.fn 5 (.bin .add (.bin .mul (.bin .ediv (.fn 12 (.lit 0) quoD3Rz0 quoD3Rz1) (.lit 9223372036854775808)) (.lit 18446744073709551616)) (.un (.wrap .u64) (.bin .mul (.fn 12 (.lit 0) quoD3Rz0 quoD3Rz1) (.lit 2)))) quoD3Rz3 (.lit 0))))),
  ([(.var 6), (.un .bnot (.un .bnot (.var 6))), (.un .bnot (.var 1)), (.un .bnot (.var 7)), (.un .bnot (.var 2)), (.bin .le (.lit 0) (.var 3)), (.bin .le (.var 3) (.lit 16777215)), (.bin .le (.lit (-149)) (.var 4)), (.bin .le (.var 4) (.lit 104)), (.bin .le (.lit 0) (.var 8)), (.bin .le (.var 8) (.lit 16777215)), (.bin .le (.lit (-149)) (.var 9)), (.bin .le (.var 9) (.lit 104))], (.int .u64 quoD3Rz2)),
  ([(.bin .eq (.var 3) (.lit 0)), (.un .bnot (.var 6)), (.un .bnot (.un .bnot (.var 6))), (.un .bnot (.var 1)), (.un .bnot (.var 7)), (.un .bnot (.var 2)), (.bin .le (.lit 0) (.var 3)), (.bin .le (.var 3) (.lit 16777215)), (.bin .le (.lit (-149)) (.var 4)), (.bin .le (.var 4) (.lit 104)), (.bin .le (.lit 0) (.var 8)), (.bin .le (.var 8) (.lit 16777215)), (.bin .le (.lit (-149)) (.var 9)), (.bin .le (.var 9) (.lit 104))], (.int .u64 quoD3Rz2)),
  ([(.un .bnot (.bin .eq (.fn 13 (.lit 0) quoD3Rz0 quoD3Rz1) (.lit 0))), (.un .bnot (.bin .eq (.var 3) (.lit 0))), (.un .bnot (.var 6)), (.un .bnot (.un .bnot (.var 6))), (.un .bnot (.var 1)), (.un .bnot (.var 7)), (.un .bnot (.var 2)), (.bin .le (.lit 0) (.var 3)), (.bin .le (.var 3) (.lit 16777215)), (.bin .le (.lit (-149)) (.var 4)), (.bin .le (.var 4) (.lit 104)), (.bin .le (.lit 0) (.var 8)), (.bin .le (.var 8) (.lit 16777215)), (.bin .le (.lit (-149)) (.var 9)), (.bin .le (.var 9) (.lit 104))], (.int .u64 (.bin .add quoD3Rz2 (.fn 5 (.bin .add (.bin .mul (.bin .ediv (.fn 12 (.lit 0) quoD3Rz0 quoD3Rz1) (.lit 9223372036854775808)) (.lit 18446744073709551616)) (.bin (.bits .or .u64) (.un (.wrap .u64) (.bin .mul (.fn 12 (.lit 0) quoD3Rz0 quoD3Rz1) (.lit 2))) (.lit 1))) quoD3Rz3 (.lit 0))))),
  ([(.bin .eq (.fn 13 (.lit 0) quoD3Rz0 quoD3Rz1) (.lit 0)), (.un .bnot (.bin .eq (.var 3) (.lit 0))), (.un .bnot (.var 6)), (.un .bnot (.un .bnot (.var 6))), (.un .bnot (.var 1)), (.un .bnot (.var 7)), (.un .bnot (.var 2)), (.bin .le (.lit 0) (.var 3)), (.bin .le (.var 3) (.lit 16777215)), (.bin .le (.lit (-149)) (.var 4)), (.bin .le (.var 4) (.lit 104)), (.bin .le (.lit 0) (.var 8)), (.bin .le (.var 8) (.lit 16777215)), (.bin .le (.lit (-149)) (.var 9)), (.bin .le (.var 9) (.lit 104))], (.int .u64 (.bin .add quoD3Rz2 (.fn 5 (.bin .add (.bin .mul (.bin .ediv (.fn 12 (.lit 0) quoD3Rz0 quoD3Rz1) (.lit 9223372036854775808)) (.lit 18446744073709551616)) (.un (.wrap .u64) (.bin .mul (.fn 12 (.lit 0) quoD3Rz0 quoD3Rz1) (.lit 2)))) quoD3Rz3 (.lit 0)))))]
set_option maxRecDepth 100000 in
theorem quoD3Ran : runOfG Try.prog (orcs (gOracle (gsD03 ++ [rndD3])) (specOracle [lenT, divS])) noLoops (bodies fns) [] 4000 quoD3 = some quoD3R := by kernel_rfl
def rootD3Rz0 : E := (.un (.wrap .u64) (.fn 14 (.lit 0) (.bin .add (.bin .mul (.bin (.shl .u64) (.var 3) (.bin .add (.bin .sub (.lit 64) (.fn 0 (.var 3) (.lit 0) (.lit 0))) (.lit (-3)))) (.lit 18446744073709551616)) (.lit 0)) (.lit 64)))
def rootD3Rz1 : E := (.un (.wrap .u64) (.fn 14 (.lit 0) (.bin .add (.bin .mul (.bin (.shl .u64) (.var 3) (.bin .add (.bin .sub (.lit 64) (.fn 0 (.var 3) (.lit 0) (.lit 0))) (.lit (-2)))) (.lit 18446744073709551616)) (.lit 0)) (.lit 64)))
def rootD3Rz2 : E := (.bin .sub (.var 4) (.bin .add (.bin .sub (.lit 64) (.fn 0 (.var 3) (.lit 0) (.lit 0))) (.lit 62)))
def rootD3Rz3 : E := (.bin .eq (.un (.wrap .u64) (.bin .ediv (.bin .mul rootD3Rz1 rootD3Rz1) (.lit 18446744073709551616))) (.bin (.shl .u64) (.var 3) (.bin .add (.bin .sub (.lit 64) (.fn 0 (.var 3) (.lit 0) (.lit 0))) (.lit (-2)))))
def rootD3Rz4 : E := (.bin .eq (.un (.wrap .u64) (.bin .ediv (.bin .mul rootD3Rz0 rootD3Rz0) (.lit 18446744073709551616))) (.bin (.shl .u64) (.var 3) (.bin .add (.bin .sub (.lit 64) (.fn 0 (.var 3) (.lit 0) (.lit 0))) (.lit (-3)))))
def rootD3R : List Leaf := [
  ([(.var 2), (.bin .le (.lit 0) (.var 3)), (.bin .le (.var 3) (.lit 16777215)), (.bin .le (.lit (-149)) (.var 4)), (.bin .le (.var 4) (.lit 104))], (.int .u64 (.lit 2143289344))),
  ([(.var 1), (.var 0), (.un .bnot (.var 2)), (.bin .le (.lit 0) (.var 3)), (.bin .le (.var 3) (.lit 16777215)), (.bin .le (.lit (-149)) (.var 4)), (.bin .le (.var 4) (.lit 104))], (.int .u64 (.lit 2143289344))),
  ([(.un .bnot (.bin .eq (.var 3) (.lit 0))), (.un .bnot (.var 1)), (.var 0), (.un .bnot (.var 2)), (.bin .le (.lit 0) (.var 3)), (.bin .le (.var 3) (.lit 16777215)), (.bin .le (.lit (-149)) (.var 4)), (.bin .le (.var 4) (.lit 104))], (.int .u64 (.lit 2143289344))),
  ([(.bin .eq (.var 3) (.lit 0)), (.un .bnot (.var 1)), (.var 0), (.un .bnot (.var 2)), (.bin .le (.lit 0) (.var 3)), (.bin .le (.var 3) (.lit 16777215)), (.bin .le (.lit (-149)) (.var 4)), (.bin .le (.var 4) (.lit 104))], (.int .u64 (.ite (.un .bnot (.un .bnot (.var 0))) (.lit 2147483648) (.lit 0)))),
  ([(.var 1), (.un .bnot (.var 0)), (.un .bnot (.var 2)), (.bin .le (.lit 0) (.var 3)), (.bin .le (.var 3) (.lit 16777215)), (.bin .le (.lit (-149)) (.var 4)), (.bin .le (.var 4) (.lit 104))], (.int .u64 (.ite (.un .bnot (.un .bnot (.lit 0))) (.lit 4286578688) (.lit 2139095040)))),
  ([(.bin .eq (.var 3) (.lit 0)), (.un .bnot (.var 1)), (.un .bnot (.var 0)), (.un .bnot (.var 2)), (.bin .le (.lit 0) (.var 3)), (.bin .le (.var 3) (.lit 16777215)), (.bin .le (.lit (-149)) (.var 4)), (.bin .le (.var 4) (.lit 104))], (.int .u64 (.ite (.un .bnot (.un .bnot (.var 0))) (.lit 2147483648) (.lit 0)))),
  ([(.un .bnot rootD3Rz4), (.bin .eq (.bin .emod rootD3Rz2 (.lit 2)) (.lit 1)), (.un .bnot (.bin .eq (.var 3) (.lit 0))), (.un .bnot (.var 1)), (.un .bnot (.var 0)), (.un .bnot (.var 2)), (.bin .le (.lit 0) (.var 3)), (.bin .le (.var 3) (.lit 16777215)), (.bin .le (.lit (-149)) (.var 4)), (.bin .le (.var 4) (.lit 104))], (.int .u64 (.bin .add (.ite (.un .bnot (.un .bnot (.lit 0))) (.lit 2147483648) (.lit 0)) (.fn 5 (.bin .add (.bin .mul (.bin .ediv rootD3Rz0 (.lit 9223372036854775808)) (.lit 18446744073709551616)) (.bin (.bits .or .u64) (.un (.wrap .u64) (.bin .mul rootD3Rz0 (.lit 2))) (.lit 1))) (.bin .add (.bin .tdiv (.bin .sub (.var 4) (.bin .add (.bin .sub (.lit 64) (.fn 0 (.var 3) (.lit 0) (.lit 0))) (.lit 61))) (.lit 2)) (.lit (-1))) (.lit 0))))),
  ([(.un .bnot (.bin .eq (.un (.wrap .u64) (.bin .mul rootD3Rz0 rootD3Rz0)) (.lit 0))), rootD3Rz4, (.bin .eq (.bin .emod rootD3Rz2 (.lit 2)) (.lit 1)), (.un .bnot (.bin .eq (.var 3) (.lit 0))), (.un .bnot (.var 1)), (.un .bnot (.var 0)), (.un .bnot (.var 2)), (.bin .le (.lit 0) (.var 3)), (.bin .le (.var 3) (.lit 16777215)), (.bin .le (.lit (-149)) (.var 4)), (.bin .le (.var 4) (.lit 104))], (.int .u64 (.bin .add (.ite (.un .bnot (.un .bnot (.lit 0))) (.lit 2147483648) (.lit 0)) (.fn 5 (.bin .add (.bin .mul (.bin .ediv rootD3Rz0 (.lit 9223372036854775808)) (.lit 18446744073709551616)) (.bin (.bits .or .u64) (.un (.wrap .u64) (.bin .mul rootD3Rz0 (.lit 2))) (.lit 1))) (.bin .add (.bin .tdiv (.bin .sub (.var 4) (.bin .add (.bin .sub (.lit 64) (.fn 0 (.var 3) (.lit 0) (.lit 0))) (.lit 61))) (.lit 2)) (.lit (-1))) (.lit 0))))),
  ([(.bin .eq (.un (.wrap .u64) (.bin .mul rootD3Rz0 rootD3Rz0)) (.lit 0)), rootD3Rz4, (.bin .eq (.bin .emod rootD3Rz2 (.lit 2)) (.lit 1)), (.un .bnot (.bin .eq (.var 3) (.lit 0))), (.un .bnot (.var 1)), (.un .bnot (.var 0)), (.un .bnot (.var 2)), (.bin .le (.lit 0) (.var 3)), (.bin .le (.var 3) (.lit 16777215)), (.bin .le (.lit (-149)) (.var 4)), (.bin .le (.var 4) (.lit 104))], (.int .u64 (.bin .add (.ite (.un .bnot (.un .bnot (.lit 0))) (.lit 2147483648) (.lit 0)) (.fn 5 (.bin .add (.bin .mul (.bin .ediv rootD3Rz0 (.lit 9223372036854775808)) (.lit 18446744073709551616)) (.un (.wrap .u64) (.bin .mul rootD3Rz0 (.lit 2)))) (.bin .add (.bin .tdiv (.bin .sub (.var 4) (.bin .add (.bin .sub (.lit 64) (.fn 0 (.var 3) (.lit 0) (.lit 0))) (.lit 61))) (.lit 2)) (.lit (-1))) (.lit 0))))),
  ([(.un .bnot rootD3Rz3), (.un .bnot (.bin .eq (.bin .emod rootD3Rz2 (.lit 2)) (.lit 1))), (.un .bnot (.bin .eq (.var 3) (.lit 0))), (.un .bnot (.var 1)), (.un .bnot (.var 0)), (.un .bnot (.var 2)), (.bin .le (.lit 0) (.var 3)), (.bin .le (.var 3) (.lit 16777215)), (.bin .le (.lit (-149)) (.var 4)), (.bin .le (.var 4) (.lit 104))], (.int .u64 (.bin .add (.ite (.un .bnot (.un .bnot (.lit 0))) (.lit 2147483648) (.lit 0)) (.fn 5 (.bin .add (.bin .mul (.bin .ediv rootD3Rz1 (.lit 9223372036854775808)) (.lit 18446744073709551616)) (.bin (.bits .or .u64) (.un (.wrap .u64) (.bin .mul rootD3Rz1 (.lit 2))) (.lit 1))) (.bin .add (.bin .tdiv rootD3Rz2 (.lit 2)) (.lit (-1))) (.lit 0))))),
  ([(.un .bnot (.bin .eq (.un (.wrap .u64) (.bin .mul rootD3Rz1 rootD3Rz1)) (.lit 0))), rootD3Rz3, (.un .bnot (.bin .eq (.bin .emod rootD3Rz2 (.lit 2)) (.lit 1))), (.un .bnot (.bin .eq (.var 3) (.lit 0))), (.un .bnot (.var 1)), (.un .bnot (.var 0)), (.un .bnot (.var 2)), (.bin .le (.lit 0) (.var 3)), (.bin .le (.var 3) (.lit 16777215)), (.bin .le (.lit (-149)) (.var 4)), (.bin .le (.var 4) (.lit 104))], (.int .u64 (.bin .add (.ite (.un .bnot (.un .bnot (.lit 0))) (.lit 2147483648) (.lit 0)) (.fn 5 (.bin .add (.bin .mul (.bin .ediv rootD3Rz1 (.lit 9223372036854775808)) (.lit 18446744073709551616)) (.bin (.bits .or .u64) (.un (.wrap .u64) (.bin .mul rootD3Rz1 (.lit 2))) (.lit 1))) (.bin .add (.bin .tdiv rootD3Rz2 (.lit 2)) (.lit (-1))) (.lit 0))))),
  ([(.bin .eq (.un (.wrap .u64) (.bin .mul rootD3Rz1 rootD3Rz1)) (.lit 0)), rootD3Rz3, (.un .bnot (.bin .eq (.bin .emod rootD3Rz2 (.lit 2)) (.lit 1))), (.un .bnot (.bin .eq (.var 3) (.lit 0))), (.un .bnot (.var 1)), (.un .bnot (.var 0)), (.un .bnot (.var 2)), (.bin .le (.lit 0) (.var 3)), (.bin .le (.var 3) (.lit 16777215)), (.bin .le (.lit (-149)) (.var 4)), (.bin .le (.var 4) (.lit 104))], (.int .u64 (.bin .add (.ite (.un .bnot (.un .bnot (.lit 0))) (.lit 2147483648) (.lit 0)) (.fn 5 (.bin .add (.bin .mul (.bin .ediv rootD3Rz1 (.lit 9223372036854775808)) (.lit 18446744073709551616)) (.un (.wrap .u64) (.bin .mul rootD3Rz1 (.lit 2)))) (.bin .add (.bin .tdiv rootD3Rz2 (.lit 2)) (.lit (-1))) (.lit 0)))))]
set_option maxRecDepth 100000 in
theorem rootD3Ran : runOfG Try.prog (orcs (gOracle (gsD03 ++ [rndD3])) (specOracle [lenT, mulS])) (loopOracle [rootLo]) (bodies fns) [] 4000 rootD3 = some rootD3R := by kernel_rfl
def wholeD3Rz0 : E := (.bin .eq (.var 4) (.un (.wrap .u64) (.bin .ediv (.fn 2 (.bin .add (.lit 0) (.var 2)) (.bin .sub (.lit 0) (.var 3)) (.lit 0)) (.lit 18446744073709551616))))
def wholeD3Rz1 : E := (.bin .eq (.var 5) (.un (.wrap .u64) (.fn 2 (.bin .add (.lit 0) (.var 2)) (.bin .sub (.lit 0) (.var 3)) (.lit 0))))
def wholeD3Rz2 : E := (.bin .eq (.var 6) (.fn 3 (.bin .add (.lit 0) (.var 2)) (.bin .sub (.lit 0) (.var 3)) (.lit 0)))
def wholeD3Rz3 : E := (.bin .add (.ite (.bin .le (.lit 2147483648) (.var 1)) (.lit 2147483648) (.lit 0)) (.fn 5 (.bin .add (.lit 0) (.var 5)) (.lit 0) (.lit 0)))
def wholeD3Rz4 : E := (.bin .add (.ite (.bin .le (.lit 2147483648) (.var 1)) (.lit 2147483648) (.lit 0)) (.fn 5 (.bin .add (.lit 0) (.un (.wrap .u64) (.bin .add (.var 5) (.lit 1)))) (.lit 0) (.lit 0)))
def wholeD3R : List Leaf := [
  ([(.bin .lt (.lit 2139095040) (.bin .emod (.var 1) (.lit 2147483648))), (.bin .eq (.var 3) (plcE3 (.var 1))), (.bin .eq (.var 2) (magE3 (.var 1))), (.bin .le (.lit 0) (.var 0)), (.bin .le (.var 0) (.lit 3)), (.bin .le (.var 1) (.lit 4294967295))], (.int .u64 (.lit 2143289344))),
  ([(.bin .eq (.bin .emod (.var 1) (.lit 2147483648)) (.lit 2139095040)), (.bin .le (.bin .emod (.var 1) (.lit 2147483648)) (.lit 2139095040)), (.bin .eq (.var 3) (plcE3 (.var 1))), (.bin .eq (.var 2) (magE3 (.var 1))), (.bin .le (.lit 0) (.var 0)), (.bin .le (.var 0) (.lit 3)), (.bin .le (.var 1) (.lit 4294967295))], (.int .u64 (.var 1))),
  ([(.bin .eq (.var 2) (.lit 0)), (.un .bnot (.bin .eq (.bin .emod (.var 1) (.lit 2147483648)) (.lit 2139095040))), (.bin .le (.bin .emod (.var 1) (.lit 2147483648)) (.lit 2139095040)), (.bin .eq (.var 3) (plcE3 (.var 1))), (.bin .eq (.var 2) (magE3 (.var 1))), (.bin .le (.lit 0) (.var 0)), (.bin .le (.var 0) (.lit 3)), (.bin .le (.var 1) (.lit 4294967295))], (.int .u64 (.var 1))),
  ([(.bin .le (.lit 0) (.var 3)), (.un .bnot (.bin .eq (.var 2) (.lit 0))), (.un .bnot (.bin .eq (.bin .emod (.var 1) (.lit 2147483648)) (.lit 2139095040))), (.bin .le (.bin .emod (.var 1) (.lit 2147483648)) (.lit 2139095040)), (.bin .eq (.var 3) (plcE3 (.var 1))), (.bin .eq (.var 2) (magE3 (.var 1))), (.bin .le (.lit 0) (.var 0)), (.bin .le (.var 0) (.lit 3)), (.bin .le (.var 1) (.lit 4294967295))], (.int .u64 (.var 1))),
  ([(.un .bnot (.bin .eq (.var 6) (.lit 2))), (.bin .lt (.var 1) (.lit 2147483648)), (.bin .eq (.var 0) (.lit 0)), wholeD3Rz2, wholeD3Rz1, wholeD3Rz0, (.bin .lt (.var 3) (.lit 0)), (.un .bnot (.bin .eq (.var 2) (.lit 0))), (.un .bnot (.bin .eq (.bin .emod (.var 1) (.lit 2147483648)) (.lit 2139095040))), (.bin .le (.bin .emod (.var 1) (.lit 2147483648)) (.lit 2139095040)), (.bin .eq (.var 3) (plcE3 (.var 1))), (.bin .eq (.var 2) (magE3 (.var 1))), (.bin .le (.lit 0) (.var 0)), (.bin .le (.var 0) (.lit 3)), (.bin .le (.var 1) (.lit 4294967295))], (.int .u64 wholeD3Rz4)),
  ([(.bin .eq (.var 6) (.lit 2)), (.bin .lt (.var 1) (.lit 2147483648)), (.bin .eq (.var 0) (.lit 0)), wholeD3Rz2, wholeD3Rz1, wholeD3Rz0, (.bin .lt (.var 3) (.lit 0)), (.un .bnot (.bin .eq (.var 2) (.lit 0))), (.un .bnot (.bin .eq (.bin .emod (.var 1) (.lit 2147483648)) (.lit 2139095040))), (.bin .le (.bin .emod (.var 1) (.lit 2147483648)) (.lit 2139095040)), (.bin .eq (.var 3) (plcE3 (.var 1))), (.bin .eq (.var 2) (magE3 (.var 1))), (.bin .le (.lit 0) (.var 0)), (.bin .le (.var 0) (.lit 3)), (.bin .le (.var 1) (.lit 4294967295))], (.int .u64 wholeD3Rz3)),
  ([(.bin .le (.lit 2147483648) (.var 1)), (.bin .eq (.var 0) (.lit 0)), wholeD3Rz2, wholeD3Rz1, wholeD3Rz0, (.bin .lt (.var 3) (.lit 0)), (.un .bnot (.bin .eq (.var 2) (.lit 0))), (.un .bnot (.bin .eq (.bin .emod (.var 1) (.lit 2147483648)) (.lit 2139095040))), (.bin .le (.bin .emod (.var 1) (.lit 2147483648)) (.lit 2139095040)), (.bin .eq (.var 3) (plcE3 (.var 1))), (.bin .eq (.var 2) (magE3 (.var 1))), (.bin .le (.lit 0) (.var 0)), (.bin .le (.var 0) (.lit 3)), (.bin .le (.var 1) (.lit 4294967295))], (.int .u64 wholeD3Rz3)),
  ([(.un .bnot (.bin .eq (.var 6) (.lit 2))), (.bin .le (.lit 2147483648) (.var 1)), (.bin .eq (.var 0) (.lit 1)), (.un .bnot (.bin .eq (.var 0) (.lit 0))), wholeD3Rz2, wholeD3Rz1, wholeD3Rz0, (.bin .lt (.var 3) (.lit 0)), (.un .bnot (.bin .eq (.var 2) (.lit 0))), (.un .bnot (.bin .eq (.bin .emod (.var 1) (.lit 2147483648)) (.lit 2139095040))), (.bin .le (.bin .emod (.var 1) (.lit 2147483648)) (.lit 2139095040)), (.bin .eq (.var 3) (plcE3 (.var 1))), (.bin .eq (.var 2) (magE3 (.var 1))), (.bin .le (.lit 0) (.var 0)), (.bin .le (.var 0) (.lit 3)), (.bin .le (.var 1) (.lit 4294967295))], (.int .u64 wholeD3Rz4)),
  ([(.bin .eq (.var 6) (.lit 2)), (.bin .le (.lit 2147483648) (.var 1)), (.bin .eq (.var 0) (.lit 1)), (.un .bnot (.bin .eq (.var 0) (.lit 0))), wholeD3Rz2, wholeD3Rz1, wholeD3Rz0, (.bin .lt (.var 3) (.lit 0)), (.un .bnot (.bin .eq (.var 2) (.lit 0))), (.un .bnot (.bin .eq (.bin .emod (.var 1) (.lit 2147483648)) (.lit 2139095040))), (.bin .le (.bin .emod (.var 1) (.lit 2147483648)) (.lit 2139095040)), (.bin .eq (.var 3) (plcE3 (.var 1))), (.bin .eq (.var 2) (magE3 (.var 1))), (.bin .le (.lit 0) (.var 0)), (.bin .le (.var 0) (.lit 3)), (.bin .le (.var 1) (.lit 4294967295))], (.int .u64 wholeD3Rz3)),
  ([(.bin .lt (.var 1) (.lit 2147483648)), (.bin .eq (.var 0) (.lit 1)), (.un .bnot (.bin .eq (.var 0) (.lit 0))), wholeD3Rz2, wholeD3Rz1, wholeD3Rz0, (.bin .lt (.var 3) (.lit 0)), (.un .bnot (.bin .eq (.var 2) (.lit 0))), (.un .bnot (.bin .eq (.bin .emod (.var 1) (.lit 2147483648)) (.lit 2139095040))), (.bin .le (.bin .emod (.var 1) (.lit 2147483648)) (.lit 2139095040)), (.bin .eq (.var 3) (plcE3 (.var 1))), (.bin .eq (.var 2) (magE3 (.var 1))), (.bin .le (.lit 0) (.var 0)), (.bin .le (.var 0) (.lit 3)), (.bin .le (.var 1) (.lit 4294967295))], (.int .u64 wholeD3Rz3)),
  ([(.bin .eq (.var 6) (.lit 1)), (.bin .eq (.var 0) (.lit 3)), (.un .bnot (.bin .eq (.var 0) (.lit 1))), (.un .bnot (.bin .eq (.var 0) (.lit 0))), wholeD3Rz2, wholeD3Rz1, wholeD3Rz0, (.bin .lt (.var 3) (.lit 0)), (.un .bnot (.bin .eq (.var 2) (.lit 0))), (.un .bnot (.bin .eq (.bin .emod (.var 1) (.lit 2147483648)) (.lit 2139095040))), (.bin .le (.bin .emod (.var 1) (.lit 2147483648)) (.lit 2139095040)), (.bin .eq (.var 3) (plcE3 (.var 1))), (.bin .eq (.var 2) (magE3 (.var 1))), (.bin .le (.lit 0) (.var 0)), (.bin .le (.var 0) (.lit 3)), (.bin .le (.var 1) (.lit 4294967295))], (.int .u64 wholeD3Rz4)),
  ([(.bin .eq (.bin .emod (.var 5) (.lit 2)) (.lit 1)), (.bin .eq (.var 6) (.lit 0)), (.un .bnot (.bin .eq (.var 6) (.lit 1))), (.bin .eq (.var 0) (.lit 3)), (.un .bnot (.bin .eq (.var 0) (.lit 1))), (.un .bnot (.bin .eq (.var 0) (.lit 0))), wholeD3Rz2, wholeD3Rz1, wholeD3Rz0, (.bin .lt (.var 3) (.lit 0)), (.un .bnot (.bin .eq (.var 2) (.lit 0))), (.un .bnot (.bin .eq (.bin .emod (.var 1) (.lit 2147483648)) (.lit 2139095040))), (.bin .le (.bin .emod (.var 1) (.lit 2147483648)) (.lit 2139095040)), (.bin .eq (.var 3) (plcE3 (.var 1))), (.bin .eq (.var 2) (magE3 (.var 1))), (.bin .le (.lit 0) (.var 0)), (.bin .le (.var 0) (.lit 3)), (.bin .le (.var 1) (.lit 4294967295))], (.int .u64 wholeD3Rz4)),
  ([(.un .bnot (.bin .eq (.bin .emod (.var 5) (.lit 2)) (.lit 1))), (.bin .eq (.var 6) (.lit 0)), (.un .bnot (.bin .eq (.var 6) (.lit 1))), (.bin .eq (.var 0) (.lit 3)), (.un .bnot (.bin .eq (.var 0) (.lit 1))), (.un .bnot (.bin .eq (.var 0) (.lit 0))), wholeD3Rz2, wholeD3Rz1, wholeD3Rz0, (.bin .lt (.var 3) (.lit 0)), (.un .bnot (.bin .eq (.var 2) (.lit 0))), (.un .bnot (.bin .eq (.bin .emod (.var 1) (.lit 2147483648)) (.lit 2139095040))), (.bin .le (.bin .emod (.var 1) (.lit 2147483648)) (.lit 2139095040)), (.bin .eq (.var 3) (plcE3 (.var 1))), (.bin .eq (.var 2) (magE3 (.var 1))), (.bin .le (.lit 0) (.var 0)), (.bin .le (.var 0) (.lit 3)), (.bin .le (.var 1) (.lit 4294967295))], (.int .u64 wholeD3Rz3)),
  ([(.un .bnot (.bin .eq (.var 6) (.lit 0))), (.un .bnot (.bin .eq (.var 6) (.lit 1))), (.bin .eq (.var 0) (.lit 3)), (.un .bnot (.bin .eq (.var 0) (.lit 1))), (.un .bnot (.bin .eq (.var 0) (.lit 0))), wholeD3Rz2, wholeD3Rz1, wholeD3Rz0, (.bin .lt (.var 3) (.lit 0)), (.un .bnot (.bin .eq (.var 2) (.lit 0))), (.un .bnot (.bin .eq (.bin .emod (.var 1) (.lit 2147483648)) (.lit 2139095040))), (.bin .le (.bin .emod (.var 1) (.lit 2147483648)) (.lit 2139095040)), (.bin .eq (.var 3) (plcE3 (.var 1))), (.bin .eq (.var 2) (magE3 (.var 1))), (.bin .le (.lit 0) (.var 0)), (.bin .le (.var 0) (.lit 3)), (.bin .le (.var 1) (.lit 4294967295))], (.int .u64 wholeD3Rz3)),
  ([(.un .bnot (.bin .eq (.var 0) (.lit 3))), (.un .bnot (.bin .eq (.var 0) (.lit 1))), (.un .bnot (.bin .eq (.var 0) (.lit 0))), wholeD3Rz2, wholeD3Rz1, wholeD3Rz0, (.bin .lt (.var 3) (.lit 0)), (.un .bnot (.bin .eq (.var 2) (.lit 0))), (.un .bnot (.bin .eq (.bin .emod (.var 1) (.lit 2147483648)) (.lit 2139095040))), (.bin .le (.bin .emod (.var 1) (.lit 2147483648)) (.lit 2139095040)), (.bin .eq (.var 3) (plcE3 (.var 1))), (.bin .eq (.var 2) (magE3 (.var 1))), (.bin .le (.lit 0) (.var 0)), (.bin .le (.var 0) (.lit 3)), (.bin .le (.var 1) (.lit 4294967295))], (.int .u64 wholeD3Rz3))]
set_option maxRecDepth 100000 in
theorem wholeD3Ran : runOfG Try.prog (orcs (nameO (gOracle [apartD3])) (orcs (gOracle (gsD03 ++ [rndD3])) (nameO (specOracle [downS])))) noLoops (bodies fns) [] 4000 wholeD3 = some wholeD3R := by kernel_rfl
end Go.Proofs.Ytnodelimomljbaa.RunRefD3

/- The ways of the reference's single floats through numbers, and that the code takes no other. No condition. -/
namespace Go.Proofs.Ytnodelimomljbaa.RunRefB3
open Go Go.Sx Go.Sx.Flt Go.Sx.Ref

def apartD3R : List Leaf := [
  ([(.bin .eq (.un (.wrap .u8) (.bin .ediv (.var 0) (.lit 8388608))) (.lit 255)), (.bin .le (.var 0) (.lit 4294967295))], (.tup [(.bool (.bin .eq (.bin .emod (.bin .ediv (.var 0) (.lit 2147483648)) (.lit 2)) (.lit 1))), (.bool (.bin .eq (.bin .emod (.var 0) (.lit 8388608)) (.lit 0))), (.bool (.un .bnot (.bin .eq (.bin .emod (.var 0) (.lit 8388608)) (.lit 0)))), (.int .u64 (.bin .emod (.var 0) (.lit 8388608))), (.int .i64 (.lit 0))])),
  ([(.bin .eq (.un (.wrap .u8) (.bin .ediv (.var 0) (.lit 8388608))) (.lit 0)), (.un .bnot (.bin .eq (.un (.wrap .u8) (.bin .ediv (.var 0) (.lit 8388608))) (.lit 255))), (.bin .le (.var 0) (.lit 4294967295))], (.tup [(.bool (.bin .eq (.bin .emod (.bin .ediv (.var 0) (.lit 2147483648)) (.lit 2)) (.lit 1))), (.bool (.lit 0)), (.bool (.lit 0)), (.int .u64 (.bin .emod (.var 0) (.lit 8388608))), (.int .i64 (.lit (-149)))])),
  ([(.un .bnot (.bin .eq (.un (.wrap .u8) (.bin .ediv (.var 0) (.lit 8388608))) (.lit 0))), (.un .bnot (.bin .eq (.un (.wrap .u8) (.bin .ediv (.var 0) (.lit 8388608))) (.lit 255))), (.bin .le (.var 0) (.lit 4294967295))], (.tup [(.bool (.bin .eq (.bin .emod (.bin .ediv (.var 0) (.lit 2147483648)) (.lit 2)) (.lit 1))), (.bool (.lit 0)), (.bool (.lit 0)), (.int .u64 (.bin (.bits .or .u64) (.bin .emod (.var 0) (.lit 8388608)) (.lit 8388608))), (.int .i64 (.bin .add (.un (.wrap .u8) (.bin .ediv (.var 0) (.lit 8388608))) (.lit (-150))))]))]
set_option maxRecDepth 100000 in
theorem apartD3Ran : runOfG Try.prog (gOracle gsD03) noLoops (bodies fns) [] 4000 apartD3 = some apartD3R := by kernel_rfl
def lessD3R : List Leaf := [
  ([(.bin .eq (.bin .emod (.var 1) (.lit 2147483648)) (.lit 0)), (.bin .eq (.bin .emod (.var 0) (.lit 2147483648)) (.lit 0)), (.bin .eq (.var 5) (plcE3 (.var 1))), (.bin .eq (.var 4) (magE3 (.var 1))), (.bin .eq (.var 3) (plcE3 (.var 0))), (.bin .eq (.var 2) (magE3 (.var 0))), (.bin .le (.var 0) (.lit 4294967295)), (.bin .le (.var 1) (.lit 4294967295))], (.bool (.lit 0))),
  ([(.un .bnot (.bin .eq (.bin .le (.lit 2147483648) (.var 0)) (.bin .le (.lit 2147483648) (.var 1)))), (.un .bnot (.bin .eq (.bin .emod (.var 1) (.lit 2147483648)) (.lit 0))), (.bin .eq (.bin .emod (.var 0) (.lit 2147483648)) (.lit 0)), (.bin .eq (.var 5) (plcE3 (.var 1))), (.bin .eq (.var 4) (magE3 (.var 1))), (.bin .eq (.var 3) (plcE3 (.var 0))), (.bin .eq (.var 2) (magE3 (.var 0))), (.bin .le (.var 0) (.lit 4294967295)), (.bin .le (.var 1) (.lit 4294967295))], (.bool (.bin .le (.lit 2147483648) (.var 0)))),
  ([(.bin .le (.lit 2147483648) (.var 0)), (.bin .eq (.bin .le (.lit 2147483648) (.var 0)) (.bin .le (.lit 2147483648) (.var 1))), (.un .bnot (.bin .eq (.bin .emod (.var 1) (.lit 2147483648)) (.lit 0))), (.bin .eq (.bin .emod (.var 0) (.lit 2147483648)) (.lit 0)), (.bin .eq (.var 5) (plcE3 (.var 1))), (.bin .eq (.var 4) (magE3 (.var 1))), (.bin .eq (.var 3) (plcE3 (.var 0))), (.bin .eq (.var 2) (magE3 (.var 0))), (.bin .le (.var 0) (.lit 4294967295)), (.bin .le (.var 1) (.lit 4294967295))], (.bool (.bin .lt (.bin .emod (.var 1) (.lit 2147483648)) (.bin .emod (.var 0) (.lit 2147483648))))),
  ([(.bin .lt (.var 0) (.lit 2147483648)), (.bin .eq (.bin .le (.lit 2147483648) (.var 0)) (.bin .le (.lit 2147483648) (.var 1))), (.un .bnot (.bin .eq (.bin .emod (.var 1) (.lit 2147483648)) (.lit 0))), (.bin .eq (.bin .emod (.var 0) (.lit 2147483648)) (.lit 0)), (.bin .eq (.var 5) (plcE3 (.var 1))), (.bin .eq (.var 4) (magE3 (.var 1))), (.bin .eq (.var 3) (plcE3 (.var 0))), (.bin .eq (.var 2) (magE3 (.var 0))), (.bin .le (.var 0) (.lit 4294967295)), (.bin .le (.var 1) (.lit 4294967295))], (.bool (.bin .lt (.bin .emod (.var 0) (.lit 2147483648)) (.bin .emod (.var 1) (.lit 2147483648))))),
  ([(.un .bnot (.bin .eq (.bin .le (.lit 2147483648) (.var 0)) (.bin .le (.lit 2147483648) (.var 1)))), (.un .bnot (.bin .eq (.bin .emod (.var 0) (.lit 2147483648)) (.lit 0))), (.bin .eq (.var 5) (plcE3 (.var 1))), (.bin .eq (.var 4) (magE3 (.var 1))), (.bin .eq (.var 3) (plcE3 (.var 0))), (.bin .eq (.var 2) (magE3 (.var 0))), (.bin .le (.var 0) (.lit 4294967295)), (.bin .le (.var 1) (.lit 4294967295))], (.bool (.bin .le (.lit 2147483648) (.var 0)))),
  ([(.bin .le (.lit 2147483648) (.var 0)), (.bin .eq (.bin .le (.lit 2147483648) (.var 0)) (.bin .le (.lit 2147483648) (.var 1))), (.un .bnot (.bin .eq (.bin .emod (.var 0) (.lit 2147483648)) (.lit 0))), (.bin .eq (.var 5) (plcE3 (.var 1))), (.bin .eq (.var 4) (magE3 (.var 1))), (.bin .eq (.var 3) (plcE3 (.var 0))), (.bin .eq (.var 2) (magE3 (.var 0))), (.bin .le (.var 0) (.lit 4294967295)), (.bin .le (.var 1) (.lit 4294967295))], (.bool (.bin .lt (.bin .emod (.var 1) (.lit 2147483648)) (.bin .emod (.var 0) (.lit 2147483648))))),
  ([(.bin .lt (.var 0) (.lit 2147483648)), (.bin .eq (.bin .le (.lit 2147483648) (.var 0)) (.bin .le (.lit 2147483648) (.var 1))), (.un .bnot (.bin .eq (.bin .emod (.var 0) (.lit 2147483648)) (.lit 0))), (.bin .eq (.var 5) (plcE3 (.var 1))), (.bin .eq (.var 4) (magE3 (.var 1))), (.bin .eq (.var 3) (plcE3 (.var 0))), (.bin .eq (.var 2) (magE3 (.var 0))), (.bin .le (.var 0) (.lit 4294967295)), (.bin .le (.var 1) (.lit 4294967295))], (.bool (.bin .lt (.bin .emod (.var 0) (.lit 2147483648)) (.bin .emod (.var 1) (.lit 2147483648))))),
  ([(.bin .eq (.bin .emod (.var 1) (.lit 2147483648)) (.lit 0)), (.bin .eq (.bin .emod (.var 0) (.lit 2147483648)) (.lit 0)), (.bin .eq (.var 5) (plcE3 (.var 1))), (.bin .eq (.var 4) (magE3 (.var 1))), (.bin .eq (.var 3) (plcE3 (.var 0))), (.bin .eq (.var 2) (magE3 (.var 0))), (.bin .le (.var 0) (.lit 4294967295)), (.bin .le (.var 1) (.lit 4294967295))], (.bool (.lit 0))),
  ([(.un .bnot (.bin .eq (.bin .le (.lit 2147483648) (.var 0)) (.bin .le (.lit 2147483648) (.var 1)))), (.un .bnot (.bin .eq (.bin .emod (.var 1) (.lit 2147483648)) (.lit 0))), (.bin .eq (.bin .emod (.var 0) (.lit 2147483648)) (.lit 0)), (.bin .eq (.var 5) (plcE3 (.var 1))), (.bin .eq (.var 4) (magE3 (.var 1))), (.bin .eq (.var 3) (plcE3 (.var 0))), (.bin .eq (.var 2) (magE3 (.var 0))), (.bin .le (.var 0) (.lit 4294967295)), (.bin .le (.var 1) (.lit 4294967295))], (.bool (.bin .le (.lit 2147483648) (.var 0)))),
  ([(.bin .le (.lit 2147483648) (.var 0)), (.bin .eq (.bin .le (.lit 2147483648) (.var 0)) (.bin .le (.lit 2147483648) (.var 1))), (.un .bnot (.bin .eq (.bin .emod (.var 1) (.lit 2147483648)) (.lit 0))), (.bin .eq (.bin .emod (.var 0) (.lit 2147483648)) (.lit 0)), (.bin .eq (.var 5) (plcE3 (.var 1))), (.bin .eq (.var 4) (magE3 (.var 1))), (.bin .eq (.var 3) (plcE3 (.var 0))), (.bin .eq (.var 2) (magE3 (.var 0))), (.bin .le (.var 0) (.lit 4294967295)), (.bin .le (.var 1) (.lit 4294967295))], (.bool (.bin .lt (.bin .emod (.var 1) (.lit 2147483648)) (.bin .emod (.var 0) (.lit 2147483648))))),
  ([(.bin .lt (.var 0) (.lit 2147483648)), (.bin .eq (.bin .le (.lit 2147483648) (.var 0)) (.bin .le (.lit 2147483648) (.var 1))), (.un .bnot (.bin .eq (.bin .emod (.var 1) (.lit 2147483648)) (.lit 0))), (.bin .eq (.bin .emod (.var 0) (.lit 2147483648)) (.lit 0)), (.bin .eq (.var 5) (plcE3 (.var 1))), (.bin .eq (.var 4) (magE3 (.var 1))), (.bin .eq (.var 3) (plcE3 (.var 0))), (.bin .eq (.var 2) (magE3 (.var 0))), (.bin .le (.var 0) (.lit 4294967295)), (.bin .le (.var 1) (.lit 4294967295))], (.bool (.bin .lt (.bin .emod (.var 0) (.lit 2147483648)) (.bin .emod (.var 1) (.lit 2147483648))))),
  ([(.un .bnot (.bin .eq (.bin .le (.lit 2147483648) (.var 0)) (.bin .le (.lit 2147483648) (.var 1)))), (.un .bnot (.bin .eq (.bin .emod (.var 0) (.lit 2147483648)) (.lit 0))), (.bin .eq (.var 5) (plcE3 (.var 1))), (.bin .eq (.var 4) (magE3 (.var 1))), (.bin .eq (.var 3) (plcE3 (.var 0))), (.bin .eq (.var 2) (magE3 (.var 0))), (.bin .le (.var 0) (.lit 4294967295)), (.bin .le (.var 1) (.lit 4294967295))], (.bool (.bin .le (.lit 2147483648) (.var 0)))),
  ([(.bin .le (.lit 2147483648) (.var 0)), (.bin .eq (.bin .le (.lit 2147483648) (.var 0)) (.bin .le (.lit 2147483648) (.var 1))), (.un .bnot (.bin .eq (.bin .emod (.var 0) (.lit 2147483648)) (.lit 0))), (.bin .eq (.var 5) (plcE3 (.var 1))), (.bin .eq (.var 4) (magE3 (.var 1))), (.bin .eq (.var 3) (plcE3 (.var 0))), (.bin .eq (.var 2) (magE3 (.var 0))), (.bin .le (.var 0) (.lit 4294967295)), (.bin .le (.var 1) (.lit 4294967295))], (.bool (.bin .lt (.bin .emod (.var 1) (.lit 2147483648)) (.bin .emod (.var 0) (.lit 2147483648))))),
  ([(.bin .lt (.var 0) (.lit 2147483648)), (.bin .eq (.bin .le (.lit 2147483648) (.var 0)) (.bin .le (.lit 2147483648) (.var 1))), (.un .bnot (.bin .eq (.bin .emod (.var 0) (.lit 2147483648)) (.lit 0))), (.bin .eq (.var 5) (plcE3 (.var 1))), (.bin .eq (.var 4) (magE3 (.var 1))), (.bin .eq (.var 3) (plcE3 (.var 0))), (.bin .eq (.var 2) (magE3 (.var 0))), (.bin .le (.var 0) (.lit 4294967295)), (.bin .le (.var 1) (.lit 4294967295))], (.bool (.bin .lt (.bin .emod (.var 0) (.lit 2147483648)) (.bin .emod (.var 1) (.lit 2147483648)))))]
set_option maxRecDepth 100000 in
theorem lessD3Ran : runOfG Try.prog (nameO (gOracle [apartD3])) noLoops (bodies fns) [] 4000 lessD3 = some lessD3R := by kernel_rfl
def sumD3R : List Leaf := [
  ([(.var 2), (.bin .le (.lit 0) (.var 3)), (.bin .le (.var 3) (.lit 16777215)), (.bin .le (.lit (-149)) (.var 4)), (.bin .le (.var 4) (.lit 104)), (.bin .le (.lit 0) (.var 8)), (.bin .le (.var 8) (.lit 16777215)), (.bin .le (.lit (-149)) (.var 9)), (.bin .le (.var 9) (.lit 104))], (.int .u64 (.lit 2143289344))),
  ([(.var 7), (.un .bnot (.var 2)), (.bin .le (.lit 0) (.var 3)), (.bin .le (.var 3) (.lit 16777215)), (.bin .le (.lit (-149)) (.var 4)), (.bin .le (.var 4) (.lit 104)), (.bin .le (.lit 0) (.var 8)), (.bin .le (.var 8) (.lit 16777215)), (.bin .le (.lit (-149)) (.var 9)), (.bin .le (.var 9) (.lit 104))], (.int .u64 (.lit 2143289344))),
  ([(.un .bnot (.bin .eq (.un .bnot (.un .bnot (.var 0))) (.un .bnot (.un .bnot (.var 5))))), (.var 6), (.var 1), (.un .bnot (.var 7)), (.un .bnot (.var 2)), (.bin .le (.lit 0) (.var 3)), (.bin .le (.var 3) (.lit 16777215)), (.bin .le (.lit (-149)) (.var 4)), (.bin .le (.var 4) (.lit 104)), (.bin .le (.lit 0) (.var 8)), (.bin .le (.var 8) (.lit 16777215)), (.bin .le (.lit (-149)) (.var 9)), (.bin .le (.var 9) (.lit 104))], (.int .u64 (.lit 2143289344))),
  ([(.bin .eq (.un .bnot (.un .bnot (.var 0))) (.un .bnot (.un .bnot (.var 5)))), (.var 6), (.var 1), (.un .bnot (.var 7)), (.un .bnot (.var 2)), (.bin .le (.lit 0) (.var 3)), (.bin .le (.var 3) (.lit 16777215)), (.bin .le (.lit (-149)) (.var 4)), (.bin .le (.var 4) (.lit 104)), (.bin .le (.lit 0) (.var 8)), (.bin .le (.var 8) (.lit 16777215)), (.bin .le (.lit (-149)) (.var 9)), (.bin .le (.var 9) (.lit 104))], (.int .u64 (.ite (.un .bnot (.un .bnot (.var 0))) (.lit 4286578688) (.lit 2139095040)))),
  ([(.un .bnot (.var 6)), (.var 1), (.un .bnot (.var 7)), (.un .bnot (.var 2)), (.bin .le (.lit 0) (.var 3)), (.bin .le (.var 3) (.lit 16777215)), (.bin .le (.lit (-149)) (.var 4)), (.bin .le (.var 4) (.lit 104)), (.bin .le (.lit 0) (.var 8)), (.bin .le (.var 8) (.lit 16777215)), (.bin .le (.lit (-149)) (.var 9)), (.bin .le (.var 9) (.lit 104))], (.int .u64 (.ite (.un .bnot (.un .bnot (.var 0))) (.lit 4286578688) (.lit 2139095040)))),
  ([(.var 6), (.un .bnot (.var 1)), (.un .bnot (.var 7)), (.un .bnot (.var 2)), (.bin .le (.lit 0) (.var 3)), (.bin .le (.var 3) (.lit 16777215)), (.bin .le (.lit (-149)) (.var 4)), (.bin .le (.var 4) (.lit 104)), (.bin .le (.lit 0) (.var 8)), (.bin .le (.var 8) (.lit 16777215)), (.bin .le (.lit (-149)) (.var 9)), (.bin .le (.var 9) (.lit 104))], (.int .u64 (.ite (.un .bnot (.un .bnot (.var 5))) (.lit 4286578688) (.lit 2139095040)))),
  ([(.un .bnot (.var 6)), (.un .bnot (.var 1)), (.un .bnot (.var 7)), (.un .bnot (.var 2)), (.bin .le (.lit 0) (.var 3)), (.bin .le (.var 3) (.lit 16777215)), (.bin .le (.lit (-149)) (.var 4)), (.bin .le (.var 4) (.lit 104)), (.bin .le (.lit 0) (.var 8)), (.bin .le (.var 8) (.lit 16777215)), (.bin .le (.lit (-149)) (.var 9)), (.bin .le (.var 9) (.lit 104))], (.int .u64 (.fn 7 (.bin .add (.bin .mul (.var 3) (.lit 4096)) (.bin .add (.var 4) (.lit 2048))) (.bin .add (.bin .mul (.var 8) (.lit 4096)) (.bin .add (.var 9) (.lit 2048))) (.bin .add (.bin .mul (.un .bnot (.un .bnot (.var 0))) (.lit 2)) (.un .bnot (.un .bnot (.var 5)))))))]
set_option maxRecDepth 100000 in
theorem sumD3Ran : runOfG Try.prog (gOracle (gsD03 ++ [addD3])) noLoops (bodies fns) [] 4000 sumD3 = some sumD3R := by kernel_rfl
def mulD3R : List Leaf := [
  ([(.var 2), (.bin .le (.lit 0) (.var 3)), (.bin .le (.var 3) (.lit 16777215)), (.bin .le (.lit (-149)) (.var 4)), (.bin .le (.var 4) (.lit 104)), (.bin .le (.lit 0) (.var 8)), (.bin .le (.var 8) (.lit 16777215)), (.bin .le (.lit (-149)) (.var 9)), (.bin .le (.var 9) (.lit 104))], (.int .u64 (.lit 2143289344))),
  ([(.var 7), (.un .bnot (.var 2)), (.bin .le (.lit 0) (.var 3)), (.bin .le (.var 3) (.lit 16777215)), (.bin .le (.lit (-149)) (.var 4)), (.bin .le (.var 4) (.lit 104)), (.bin .le (.lit 0) (.var 8)), (.bin .le (.var 8) (.lit 16777215)), (.bin .le (.lit (-149)) (.var 9)), (.bin .le (.var 9) (.lit 104))], (.int .u64 (.lit 2143289344))),
  ([(.bin .eq (.var 8) (.lit 0)), (.un .bnot (.var 6)), (.var 1), (.un .bnot (.var 7)), (.un .bnot (.var 2)), (.bin .le (.lit 0) (.var 3)), (.bin .le (.var 3) (.lit 16777215)), (.bin .le (.lit (-149)) (.var 4)), (.bin .le (.var 4) (.lit 104)), (.bin .le (.lit 0) (.var 8)), (.bin .le (.var 8) (.lit 16777215)), (.bin .le (.lit (-149)) (.var 9)), (.bin .le (.var 9) (.lit 104))], (.int .u64 (.lit 2143289344))),
  ([(.un .bnot (.bin .eq (.var 8) (.lit 0))), (.un .bnot (.var 6)), (.var 1), (.un .bnot (.var 7)), (.un .bnot (.var 2)), (.bin .le (.lit 0) (.var 3)), (.bin .le (.var 3) (.lit 16777215)), (.bin .le (.lit (-149)) (.var 4)), (.bin .le (.var 4) (.lit 104)), (.bin .le (.lit 0) (.var 8)), (.bin .le (.var 8) (.lit 16777215)), (.bin .le (.lit (-149)) (.var 9)), (.bin .le (.var 9) (.lit 104))], (.int .u64 (.ite (.un .bnot (.bin .eq (.un .bnot (.un .bnot (.var 0))) (.un .bnot (.un .bnot (.var 5))))) (.lit 4286578688) (.lit 2139095040)))),
  ([(.var 6), (.un .bnot (.un .bnot (.var 6))), (.var 1), (.un .bnot (.var 7)), (.un .bnot (.var 2)), (.bin .le (.lit 0) (.var 3)), (.bin .le (.var 3) (.lit 16777215)), (.bin .le (.lit (-149)) (.var 4)), (.bin .le (.var 4) (.lit 104)), (.bin .le (.lit 0) (.var 8)), (.bin .le (.var 8) (.lit 16777215)), (.bin .le (.lit (-149)) (.var 9)), (.bin .le (.var 9) (.lit 104))], (.int .u64 (.ite (.un .bnot (.bin .eq (.un .bnot (.un .bnot (.var 0))) (.un .bnot (.un .bnot (.var 5))))) (.lit 4286578688) (.lit 2139095040)))),
  ([(.un .bnot (.var 6)), (.un .bnot (.un .bnot (.var 6))), (.var 1), (.un .bnot (.var 7)), (.un .bnot (.var 2)), (.bin .le (.lit 0) (.var 3)), (.bin .le (.var 3) (.lit 16777215)), (.bin .le (.lit (-149)) (.var 4)), (.bin .le (.var 4) (.lit 104)), (.bin .le (.lit 0) (.var 8)), (.bin .le (.var 8) (.lit 16777215)), (.bin .le (.lit (-149)) (.var 9)), (.bin .le (.var 9) (.lit 104))], (.int .u64 (.ite (.un .bnot (.bin .eq (.un .bnot (.un .bnot (.var 0))) (.un .bnot (.un .bnot (.var 5))))) (.lit 4286578688) (.lit 2139095040)))),
  ([(.bin .eq (.var 3) (.lit 0)), (.var 6), (.un .bnot (.var 1)), (.un .bnot (.var 7)), (.un .bnot (.var 2)), (.bin .le (.lit 0) (.var 3)), (.bin .le (.var 3) (.lit 16777215)), (.bin .le (.lit (-149)) (.var 4)), (.bin .le (.var 4) (.lit 104)), (.bin .le (.lit 0) (.var 8)), (.bin .le (.var 8) (.lit 16777215)), (.bin .le (.lit (-149)) (.var 9)), (.bin .le (.var 9) (.lit 104))], (.int .u64 (.lit 2143289344))),
  ([(.un .bnot (.bin .eq (.var 3) (.lit 0))), (.var 6), (.un .bnot (.var 1)), (.un .bnot (.var 7)), (.un .bnot (.var 2)), (.bin .le (.lit 0) (.var 3)), (.bin .le (.var 3) (.lit 16777215)), (.bin .le (.lit (-149)) (.var 4)), (.bin .le (.var 4) (.lit 104)), (.bin .le (.lit 0) (.var 8)), (.bin .le (.var 8) (.lit 16777215)), (.bin .le (.lit (-149)) (.var 9)), (.bin .le (.var 9) (.lit 104))], (.int .u64 (.ite (.un .bnot (.bin .eq (.un .bnot (.un .bnot (.var 0))) (.un .bnot (.un .bnot (.var 5))))) (.lit 4286578688) (.lit 2139095040)))),
  ([(.un .bnot (.var 6)), (.un .bnot (.var 1)), (.un .bnot (.var 7)), (.un .bnot (.var 2)), (.bin .le (.lit 0) (.var 3)), (.bin .le (.var 3) (.lit 16777215)), (.bin .le (.lit (-149)) (.var 4)), (.bin .le (.var 4) (.lit 104)), (.bin .le (.lit 0) (.var 8)), (.bin .le (.var 8) (.lit 16777215)), (.bin .le (.lit (-149)) (.var 9)), (.bin .le (.var 9) (.lit 104))], (.int .u64 (.bin .add (.ite (.un .bnot (.bin .eq (.un .bnot (.un .bnot (.var 0))) (.un .bnot (.un .bnot (.var 5))))) (.lit 2147483648) (.lit 0)) (.fn 5 (.bin .add (.bin .mul (.un (.wrap .u64) (.bin .ediv (.bin .mul (.var 3) (.var 8)) (.lit 18446744073709551616))) (.lit 18446744073709551616)) (.un (.wrap .u64) (.bin .mul (.var 3) (.var 8)))) (.bin .add (.var 4) (.var 9)) (.lit 0)))))]
set_option maxRecDepth 100000 in
theorem mulD3Ran : runOfG Try.prog (orcs (gOracle (gsD03 ++ [rndD3])) (specOracle [mulS])) noLoops (bodies fns) [] 4000 mulD3 = some mulD3R := by kernel_rfl
end Go.Proofs.Ytnodelimomljbaa.RunRefB3

/- The reference's sums: the rules by which a leaf is judged. No condition. -/
namespace Go.Sx.Ref
set_option linter.unusedVariables false
open Go Go.Sx Go.Sx.Flt Ieee
/-- a choice that no instance hangs on -/
theorem fn43 (N e : Int) : fnG 5 N e 0 = ((rungOf Ieee.single N.toNat e : Nat) : Int) := rfl
theorem fn4_in3 (N e : Int) : 0 ≤ fnG 5 N e 0 ∧ fnG 5 N e 0 ≤ 2139095040 := by
  rw [fn43]
  have := rung_le Ieee.single N.toNat e
  have h : Ieee.single.infRung = 2139095040 := by decide
  omega
theorem sW3 : Ieee.single.signWeight = 2147483648 := by decide
theorem word_in3 (neg : Bool) (N : Nat) (e : Int) : 0 ≤ wordI Ieee.single neg (rungOf Ieee.single N e) ∧ wordI Ieee.single neg (rungOf Ieee.single N e) ≤ 4294967295 := by
  have := rung_le Ieee.single N e
  have h : Ieee.single.infRung = 2139095040 := by decide
  unfold wordI
  rw [sW3]
  split <;> omega
theorem word_zero3' (neg : Bool) : 0 ≤ wordI Ieee.single neg 0 ∧ wordI Ieee.single neg 0 ≤ 4294967295 := by
  unfold wordI
  rw [sW3]
  split <;> omega
theorem sumO_in3 (na : Bool) (ma : Nat) (ea : Int) (nb : Bool) (mb : Nat) (eb : Int) : 0 ≤ sumO Ieee.single na ma ea nb mb eb ∧ sumO Ieee.single na ma ea nb mb eb ≤ 4294967295 := by
  unfold sumO
  simp only
  repeat' split
  all_goals first | exact word_in3 _ _ _ | omega
theorem sumC_in3 (na : Bool) (ma : Nat) (ea : Int) (nb : Bool) (mb : Nat) (eb : Int) : 0 ≤ sumC Ieee.single na ma ea nb mb eb ∧ sumC Ieee.single na ma ea nb mb eb ≤ 4294967295 := by
  unfold sumC
  split
  · exact word_zero3' _
  · split <;> exact sumO_in3 _ _ _ _ _ _
theorem fn6_in3 (x y c : Int) : 0 ≤ fnG 7 x y c ∧ fnG 7 x y c ≤ 4294967295 := sumC_in3 _ _ _ _ _ _
theorem fn63 {x X ex y Y ey : Int} (hx : x = 0 ∨ x = 1) (hy : y = 0 ∨ y = 1) (hX : 0 ≤ X) (hY : 0 ≤ Y) (h1 : -2048 ≤ ex ∧ ex < 2048) (h2 : -2048 ≤ ey ∧ ey < 2048) :
    fnG 7 (X * 4096 + (ex + 2048)) (Y * 4096 + (ey + 2048)) (x * 2 + y) = sumC Ieee.single (x == 1) X.toNat ex (y == 1) Y.toNat ey := by
  show sumC _ _ _ _ _ _ _ = _
  rw [(pk_of hX h1).1, (pk_of hX h1).2, (pk_of hY h2).1, (pk_of hY h2).2]
  have e1 : ((x * 2 + y) / 2 == 1) = (x == 1) := by rcases hx with rfl | rfl <;> rcases hy with rfl | rfl <;> rfl
  have e2 : ((x * 2 + y) % 2 == 1) = (y == 1) := by rcases hx with rfl | rfl <;> rcases hy with rfl | rfl <;> rfl
  rw [e1, e2]
def sgn3 (x : Int) : Int := if x ≠ 0 then 2147483648 else 0
theorem word_sgn3 {x : Int} (hx : x = 0 ∨ x = 1) (r : Nat) : wordI Ieee.single (x == 1) r = sgn3 x + r := by
  rcases hx with rfl | rfl <;> simp [wordI, sgn3, sW3]
theorem sumC_z3 {x X ex y Y ey : Int} (hx : x = 0 ∨ x = 1) (hy : y = 0 ∨ y = 1) (h1 : X = 0) (h2 : Y = 0) : sumC Ieee.single (x == 1) X.toNat ex (y == 1) Y.toNat ey = if x ≠ 0 then sgn3 y else 0 := by
  subst h1 h2
  unfold sumC
  rw [if_pos ⟨rfl, rfl⟩]
  rcases hx with rfl | rfl <;> rcases hy with rfl | rfl <;> simp [wordI, sW3, sgn3]
theorem sumC_ab3 {x X ex y Y ey : Int} (hX : 0 ≤ X) (hY : 0 ≤ Y) (h1 : X ≠ 0) (h2 : Y = 0 ∨ ey ≤ ex) : sumC Ieee.single (x == 1) X.toNat ex (y == 1) Y.toNat ey = sumO Ieee.single (x == 1) X.toNat ex (y == 1) Y.toNat ey := by
  unfold sumC
  rw [if_neg (by omega), if_neg (by omega)]
theorem sumC_ba3 {x X ex y Y ey : Int} (hX : 0 ≤ X) (hY : 0 ≤ Y) (h0 : Y ≠ 0) (h1 : X = 0 ∨ ex < ey) : sumC Ieee.single (x == 1) X.toNat ex (y == 1) Y.toNat ey = sumO Ieee.single (y == 1) Y.toNat ey (x == 1) X.toNat ex := by
  unfold sumC
  rw [if_neg (by omega), if_pos (by omega)]
structure Rules3 (V x y A m e : Int) : Prop where
  same : x = y → ∀ N e', N = A + m → e' = e → V = sgn3 x + fnG 5 N e' 0
  less : x ≠ y → A < m → ∀ N e', N = m - A → e' = e → V = sgn3 y + fnG 5 N e' 0
  null : x ≠ y → A = m → V = 0
  more : x ≠ y → m < A → ∀ N e', N = A - m → e' = e → V = sgn3 x + fnG 5 N e' 0
theorem rules_of3 {x X ex y V : Int} {k m : Nat} (hx : x = 0 ∨ x = 1) (hy : y = 0 ∨ y = 1)
    (h : V = if (x == 1) = (y == 1) then wordI Ieee.single (x == 1) (rungOf Ieee.single (X.toNat * 2 ^ k + m) (ex - k))
      else if X.toNat * 2 ^ k < m then wordI Ieee.single (y == 1) (rungOf Ieee.single (m - X.toNat * 2 ^ k) (ex - k))
      else if X.toNat * 2 ^ k = m then 0 else wordI Ieee.single (x == 1) (rungOf Ieee.single (X.toNat * 2 ^ k - m) (ex - k))) :
    Rules3 V x y ((X.toNat * 2 ^ k : Nat) : Int) m (ex - k) := by
  have hb : ((x == 1) = (y == 1)) ↔ x = y := by rcases hx with rfl | rfl <;> rcases hy with rfl | rfl <;> simp
  generalize X.toNat * 2 ^ k = A at h
  refine ⟨fun hs N e' hN he => ?_, fun hs hlt N e' hN he => ?_, fun hs heq => ?_, fun hs hlt N e' hN he => ?_⟩
  · rw [h, if_pos (hb.2 hs), word_sgn3 hx, fn43, he, show N.toNat = A + m by omega]
  · rw [h, if_neg (fun q => hs (hb.1 q)), if_pos (by omega), word_sgn3 hy, fn43, he, show N.toNat = m - A by omega]
  · rw [h, if_neg (fun q => hs (hb.1 q)), if_neg (by omega), if_pos (by omega)]
  · rw [h, if_neg (fun q => hs (hb.1 q)), if_neg (by omega), if_neg (by omega), word_sgn3 hx, fn43, he, show N.toNat = A - m by omega]
theorem rules_zero3 {x X ex y Y ey : Int} (hx : x = 0 ∨ x = 1) (hy : y = 0 ∨ y = 1) (hX : 0 ≤ X) (hY : Y = 0) :
    Rules3 (sumO Ieee.single (x == 1) X.toNat ex (y == 1) Y.toNat ey) x y X 0 ex := by
  have h := rules_of3 (X := X) (ex := ex) (k := 0) (m := 0) (V := sumO Ieee.single (x == 1) X.toNat ex (y == 1) Y.toNat ey) hx hy (by subst hY; simp [sumO])
  rw [pow_int hX] at h
  simpa using h
theorem rules_near3 {x X ex y Y ey : Int} (hx : x = 0 ∨ x = 1) (hy : y = 0 ∨ y = 1) (hX : 0 ≤ X) (hY : 0 < Y) (h0 : 0 ≤ ex - ey) (h1 : ex - ey ≤ 70) :
    Rules3 (sumO Ieee.single (x == 1) X.toNat ex (y == 1) Y.toNat ey) x y (X * 2 ^ (ex - ey).toNat) Y (ex - (ex - ey)) := by
  have h := rules_of3 (X := X) (ex := ex) (k := (ex - ey).toNat) (m := Y.toNat) (V := sumO Ieee.single (x == 1) X.toNat ex (y == 1) Y.toNat ey) hx hy (by
    have e1 : ¬ Y.toNat = 0 := by omega
    have e2 : ¬ (70 < ex - ey) := by omega
    simp only [sumO, e1, e2, and_false, decide_false, if_false, Bool.false_eq_true])
  rw [pow_int hX, Int.toNat_of_nonneg h0, Int.toNat_of_nonneg (by omega)] at h
  exact h
theorem rules_far3 {x X ex y Y ey : Int} (hx : x = 0 ∨ x = 1) (hy : y = 0 ∨ y = 1) (hX : 0 ≤ X) (hY : 0 < Y) (h1 : 70 < ex - ey) :
    Rules3 (sumO Ieee.single (x == 1) X.toNat ex (y == 1) Y.toNat ey) x y (X * 2 ^ 70) 1 (ex - 70) := by
  have h := rules_of3 (X := X) (ex := ex) (k := 70) (m := 1) (V := sumO Ieee.single (x == 1) X.toNat ex (y == 1) Y.toNat ey) hx hy (by
    have e1 : ¬ Y.toNat = 0 := by omega
    simp only [sumO, e1, h1, ne_eq, not_false_eq_true, and_self, decide_true, if_true, if_false])
  rw [pow_int hX] at h
  exact h
/-- a number shifted up, in two3 words -/
theorem up_big3 {X d : Int} (hX : 0 ≤ X ∧ X ≤ 16777215) (h1 : 64 ≤ d) (h2 : d ≤ 70) :
    (X * 2 ^ min (d + -64).toNat 64) % 18446744073709551616 * 18446744073709551616 = X * 2 ^ d.toNat ∧ 0 ≤ (X * 2 ^ min (d + -64).toNat 64) % 18446744073709551616 ∧ (X * 2 ^ min (d + -64).toNat 64) % 18446744073709551616 ≤ 1152921504606846976 := by
  obtain ⟨k, hk⟩ : ∃ k : Nat, d = k + 64 := ⟨(d - 64).toNat, by omega⟩
  subst hk
  have e1 : min (((k : Int) + 64 + -64).toNat) 64 = k := by omega
  have e2 : ((k : Int) + 64).toNat = k + 64 := by omega
  rw [e1, e2, Int.pow_add]
  have hp : (2 : Int) ^ k ≤ 64 := by
    have : k = 0 ∨ k = 1 ∨ k = 2 ∨ k = 3 ∨ k = 4 ∨ k = 5 ∨ k = 6 := by omega
    rcases this with rfl | rfl | rfl | rfl | rfl | rfl | rfl <;> decide
  have hp0 : (0 : Int) < 2 ^ k := Int.pow_pos (by decide)
  have hm : X * 2 ^ k ≤ 16777215 * 64 := Int.mul_le_mul hX.2 hp (by omega) (by omega)
  have hm0 : 0 ≤ X * 2 ^ k := Int.mul_nonneg hX.1 (by omega)
  rw [Int.emod_eq_of_lt hm0 (by omega), ← Int.mul_assoc]
  refine ⟨rfl, by omega, by omega⟩
theorem up_mid3 {X d : Int} (hX : 0 ≤ X ∧ X ≤ 16777215) (h1 : 0 < d) (h2 : d < 64) :
    X.fdiv (2 ^ min (64 - d).toNat 64) * 18446744073709551616 + (X * 2 ^ min d.toNat 64) % 18446744073709551616 = X * 2 ^ d.toNat ∧ 0 ≤ X.fdiv (2 ^ min (64 - d).toNat 64) ∧ X.fdiv (2 ^ min (64 - d).toNat 64) ≤ 16777215 ∧
    0 ≤ (X * 2 ^ min d.toNat 64) % 18446744073709551616 ∧ (X * 2 ^ min d.toNat 64) % 18446744073709551616 < 18446744073709551616 := by
  obtain ⟨k, hk⟩ : ∃ k : Nat, d = k := ⟨d.toNat, by omega⟩
  subst hk
  have e1 : min ((64 - (k : Int)).toNat) 64 = 64 - k := by omega
  have e2 : min ((k : Int).toNat) 64 = k := by omega
  rw [e1, e2, Int.toNat_natCast]
  obtain ⟨x, rfl⟩ : ∃ x : Nat, X = x := ⟨X.toNat, by omega⟩
  have f1 : ((x : Int)).fdiv (2 ^ (64 - k)) = ((x / 2 ^ (64 - k) : Nat) : Int) := by
    rw [Int.fdiv_eq_ediv_of_nonneg _ (Int.le_of_lt (Int.pow_pos (by decide)))]
    rw [show ((2 : Int) ^ (64 - k)) = ((2 ^ (64 - k) : Nat) : Int) by rw [Int.natCast_pow]; rfl, ← Int.natCast_ediv]
  have f2 : ((x : Int) * 2 ^ k) = ((x * 2 ^ k : Nat) : Int) := by rw [Int.natCast_mul, Int.natCast_pow]; rfl
  rw [f1, f2]
  have f3 : x * 2 ^ k = x / 2 ^ (64 - k) * 18446744073709551616 + (x * 2 ^ k) % 18446744073709551616 := by
    have e : (18446744073709551616 : Nat) = 2 ^ (64 - k) * 2 ^ k := by rw [← Nat.pow_add, show 64 - k + k = 64 by omega]
    have h := Nat.div_add_mod x (2 ^ (64 - k))
    have g : x * 2 ^ k = (x / 2 ^ (64 - k)) * 18446744073709551616 + (x % 2 ^ (64 - k)) * 2 ^ k := by
      conv => lhs; rw [← h]
      rw [e, Nat.add_mul]
      congr 1
      rw [Nat.mul_comm (2 ^ (64 - k)), Nat.mul_assoc]
    have g2 : (x % 2 ^ (64 - k)) * 2 ^ k < 18446744073709551616 := by
      rw [e]; exact Nat.mul_lt_mul_of_pos_right (Nat.mod_lt _ (Nat.two_pow_pos _)) (Nat.two_pow_pos _)
    omega
  have f4 : x / 2 ^ (64 - k) ≤ x := Nat.div_le_self _ _
  omega
end Go.Sx.Ref

/- The reference's whole part of a double, and how a double is taken apart. No condition. -/
namespace Go.Sx.Ref
set_option linter.unusedVariables false
open Go Go.Sx Go.Sx.Flt Ieee
theorem iteP_of_pos {p : Prop} {a b c : Int} (h : p) (e : c = a) : c = iteP p a b := by rw [iteP_pos h]; exact e
theorem iteP_of_neg {p : Prop} {a b c : Int} (h : ¬ p) (e : c = b) : c = iteP p a b := by rw [iteP_neg h]; exact e
theorem iteP_four {p q r : Prop} {V A B C D : Int} (a : V = A) (b : V = B) (c : V = C) (d : V = D) : V = iteP p A (iteP q B (iteP r C D)) := by
  unfold iteP
  repeat' split
  all_goals assumption
theorem iteP_same {p q : Prop} {a b c d : Int} (h : p ↔ q) (e : a = c) (f : b = d) : iteP p a b = iteP q c d := by
  by_cases g : p
  · rw [iteP_pos g, iteP_pos (h.1 g)]; exact e
  · rw [iteP_neg g, iteP_neg (fun k => g (h.2 k))]; exact f
theorem den_addP (ρ : Env) (a b : E) : (E.bin .add a b).den ρ = a.den ρ + b.den ρ := rfl
theorem add_same {a b c : Int} (h : b = c) : a + b = a + c := by rw [h]
theorem mgD {x : Int} (hx : 0 ≤ x ∧ x ≤ 18446744073709551615) : mg .f64 x = x % 9223372036854775808 := by
  unfold mg
  rw [kM64]
  split <;> omega
theorem magD {x : Int} (hx : 0 ≤ x ∧ x ≤ 18446744073709551615) (h : x % 9223372036854775808 < 9218868437227405312) :
    iteP (x % 9223372036854775808 < 4503599627370496) (x % 9223372036854775808) (iteP (x % 9223372036854775808 < 9218868437227405312) (4503599627370496 + x % 9223372036854775808 % 4503599627370496) (x % 9223372036854775808 - 9218868437227405312)) = (mO .f64 x : Int) := by
  have hb : FloatKind.f64.format.binade = 4503599627370496 := by decide
  unfold mO magOf
  rw [hb, mgD hx]
  by_cases c : x % 9223372036854775808 < 4503599627370496
  · rw [iteP_pos c, if_pos (by omega)]; omega
  · rw [iteP_neg c, iteP_pos h, if_neg (by omega)]; omega
theorem plcD {x : Int} (hx : 0 ≤ x ∧ x ≤ 18446744073709551615) (h : x % 9223372036854775808 < 9218868437227405312) :
    iteP (x % 9223372036854775808 < 4503599627370496) (-1074) (iteP (x % 9223372036854775808 < 9218868437227405312) (-1075 + x % 9223372036854775808 / 4503599627370496) 0) = pO .f64 x := by
  have hb : FloatKind.f64.format.binade = 4503599627370496 := by decide
  have hl : FloatKind.f64.format.leastPlace = -1074 := by decide
  unfold pO placeOf
  rw [hb, hl, mgD hx]
  by_cases c : x % 9223372036854775808 < 4503599627370496
  · rw [iteP_pos c, if_pos (by omega)]
  · rw [iteP_neg c, iteP_pos h, if_neg (by omega)]; omega
theorem pO_in {x : Int} (hx : 0 ≤ x ∧ x ≤ 18446744073709551615) (h : x % 9223372036854775808 < 9218868437227405312) : -1074 ≤ pO .f64 x ∧ pO .f64 x ≤ 971 := by
  rw [← plcD hx h]
  exact iteP_in (fun _ => by omega) fun _ => iteP_in (fun _ => by omega) fun _ => by omega
theorem mO_in (x : Int) : 0 ≤ (mO .f64 x : Int) ∧ (mO .f64 x : Int) ≤ 9007199254740991 := by have := mO_lt .f64 x; omega
theorem mO_null {x : Int} (hx : 0 ≤ x ∧ x ≤ 18446744073709551615) (h : x % 9223372036854775808 < 9218868437227405312) : (mO .f64 x : Int) = 0 ↔ x % 9223372036854775808 = 0 := by
  have := mO_zero (k := .f64) (x := x) hx (by rw [mgD hx]; exact h)
  rw [mgD hx] at this
  omega
theorem sg_iteP (x : Int) : Go.Sx.sg x = iteP (9223372036854775808 ≤ x) 9223372036854775808 0 := by
  unfold Go.Sx.sg
  by_cases h : 9223372036854775808 ≤ x
  · rw [if_pos h, iteP_pos h]
  · rw [if_neg h, iteP_neg h]
theorem whole_self {x : Int} (way : Toward) (hx : 0 ≤ x ∧ x ≤ 18446744073709551615) (h : x % 9223372036854775808 ≤ 9218868437227405312) (hw : x % 9223372036854775808 = 9218868437227405312 ∨ x % 9223372036854775808 = 0 ∨ 0 ≤ pO .f64 x) : fwholeI way x = x := by
  have hr : (rgW way x : Int) = x % 9223372036854775808 := by
    unfold rgW
    rw [mgD hx, kI64]
    by_cases hi : x % 9223372036854775808 = 9218868437227405312
    · rw [if_pos hi, hi]; rfl
    · rw [if_neg hi]
      rcases hw.resolve_left hi with h0 | h0
      · rw [h0, show (0 : Int).toNat = 0 from rfl, whole_null]; rfl
      · unfold pO at h0
        rw [mgD hx] at h0
        unfold wholeR
        rw [if_pos (show 0 ≤ placeOf Ieee.double (x % 9223372036854775808).toNat from h0)]; omega
  rw [(fwhole_word (way := way) (x := x) hx (by rw [mgD hx]; exact h)).1, hr]
  unfold Go.Sx.sg
  split <;> omega
theorem canon {V nan : Int} (h : 0 ≤ V) : V = iteP (V = -1) nan V := iteP_of_neg (by omega) rfl
theorem fn4_word (N : Nat) (e : Int) : fnG 4 (N : Int) e 0 = ((rungOf Ieee.double N e : Nat) : Int) := rfl
theorem whole_code {x N nan : Int} {way : Toward} (hx : 0 ≤ x ∧ x ≤ 18446744073709551615) (h : x % 9223372036854775808 < 9218868437227405312) (hp : pO .f64 x < 0)
    (hN : N = ((mO .f64 x / 2 ^ (-pO .f64 x).toNat + (upBit way (decide (9223372036854775808 ≤ x)) (mO .f64 x) (-pO .f64 x).toNat).toNat : Nat) : Int)) :
    iteP (9223372036854775808 ≤ x) 9223372036854775808 0 + fnG 4 N 0 0 = iteP (fwholeI way x = -1) nan (fwholeI way x) := by
  have hf := (fwhole_word (way := way) (x := x) hx (by rw [mgD hx]; exact Int.le_of_lt h)).1
  have hr : rgW way x = rungOf Ieee.double (mO .f64 x / 2 ^ (-pO .f64 x).toNat + (upBit way (decide (9223372036854775808 ≤ x)) (mO .f64 x) (-pO .f64 x).toNat).toNat) 0 := by
    unfold rgW
    rw [if_neg (by rw [mgD hx, kI64]; omega)]
    unfold wholeR
    rw [if_neg (show ¬ 0 ≤ placeOf Ieee.double (mg .f64 x).toNat from Int.not_le.2 hp)]
    rfl
  have e : fwholeI way x = iteP (9223372036854775808 ≤ x) 9223372036854775808 0 + fnG 4 N 0 0 := by
    rw [hf, sg_iteP, hr, hN, fn4_word]
  rw [e]
  refine canon ?_
  have := fn4_in N 0
  have h2 : 0 ≤ iteP (9223372036854775808 ≤ x) 9223372036854775808 0 ∧ iteP (9223372036854775808 ≤ x) 9223372036854775808 0 ≤ 9223372036854775808 := iteP_in (fun _ => by omega) (fun _ => by omega)
  omega
theorem fn2_mO {x : Int} : fnG 2 (0 + (mO .f64 x : Int)) (0 - pO .f64 x) 0 = ((mO .f64 x / 2 ^ (-pO .f64 x).toNat : Nat) : Int) := by
  simp only [fnG]
  rw [Int.zero_add, Int.toNat_natCast, Int.zero_sub]
theorem fn3_mO {x : Int} : fnG 3 (0 + (mO .f64 x : Int)) (0 - pO .f64 x) 0 = lost (mO .f64 x) (-pO .f64 x) := by
  simp only [fnG]
  rw [Int.zero_add, Int.toNat_natCast, Int.zero_sub]
end Go.Sx.Ref

/- Whole parts of floats of 32 bits, through those of 64. No condition. -/
namespace Go.Sx
open Go Ieee

theorem upBit_scale (way : Toward) (s : Bool) (n d k : Nat) : upBit way s (n * 2 ^ k) (d + k) = upBit way s n d ∧ (n * 2 ^ k) / 2 ^ (d + k) = n / 2 ^ d := by
  have hk : 0 < 2 ^ k := Nat.two_pow_pos k
  have e : 2 ^ (d + k) = 2 ^ d * 2 ^ k := Nat.pow_add 2 d k
  have h0 : (n * 2 ^ k) / 2 ^ (d + k) = n / 2 ^ d := by rw [e, Nat.mul_div_mul_right _ _ hk]
  have hm : (n * 2 ^ k) % 2 ^ (d + k) = n % 2 ^ d * 2 ^ k := by rw [e, Nat.mul_mod_mul_right]
  refine ⟨?_, h0⟩
  have hz : (n % 2 ^ d * 2 ^ k != 0) = (n % 2 ^ d != 0) := by
    by_cases h : n % 2 ^ d = 0
    · rw [h]; simp
    · have : n % 2 ^ d * 2 ^ k ≠ 0 := Nat.mul_ne_zero h (by omega)
      rw [bne_iff_ne.2 this, bne_iff_ne.2 h]
  unfold upBit
  cases way with
  | zero => rfl
  | up => simp only [hm, hz]
  | down => simp only [hm, hz]
  | even =>
    simp only [hm, h0]
    simp only [e]
    have h1 : (2 ^ d * 2 ^ k < 2 * (n % 2 ^ d * 2 ^ k)) ↔ (2 ^ d < 2 * (n % 2 ^ d)) := by
      rw [← Nat.mul_assoc]; exact Nat.mul_lt_mul_right hk
    have h2 : (2 ^ d * 2 ^ k = 2 * (n % 2 ^ d * 2 ^ k)) ↔ (2 ^ d = 2 * (n % 2 ^ d)) := by
      rw [← Nat.mul_assoc]; exact Nat.mul_right_cancel_iff hk
    have h3 : (2 ^ d * 2 ^ k == 2 * (n % 2 ^ d * 2 ^ k)) = (2 ^ d == 2 * (n % 2 ^ d)) := by
      rw [Bool.eq_iff_iff, beq_iff_eq, beq_iff_eq]; exact h2
    rw [h3]
    simp only [h1]
/-- the whole part, of either format -/
theorem whole_down {r : Nat} (h : r < 2139095040) (way : Toward) (s : Bool) : rungOf Ieee.single (magOf Ieee.double (wholeR Ieee.double way s (upR r))) (placeOf Ieee.double (wholeR Ieee.double way s (upR r))) = wholeR Ieee.single way s r := by
  have hp := place32 h
  obtain ⟨hv, hlt⟩ := upR_val h
  have hg := place_ge Ieee.double (upR r)
  rw [dLP] at hg
  have hval : magOf Ieee.double (upR r) * 2 ^ (placeOf Ieee.double (upR r) + 1074).toNat = magOf Ieee.single r * 2 ^ (placeOf Ieee.single r + 1074).toNat := by
    have e1 : val Ieee.double (upR r) = magOf Ieee.double (upR r) * 2 ^ (placeOf Ieee.double (upR r) + 1074).toNat := by
      unfold val; rw [dLP]; congr 2
    have e2 : val Ieee.single r * 2 ^ c925 = magOf Ieee.single r * 2 ^ (placeOf Ieee.single r + 1074).toNat := by
      unfold val
      rw [Nat.mul_assoc, ← Nat.pow_add, sLP]
      have : c925 = 925 := rfl
      congr 2; omega
    rw [← e1, ← e2]; exact hv
  by_cases hi : 0 ≤ placeOf Ieee.single r
  · have hw : wholeR Ieee.single way s r = r := by unfold wholeR; rw [if_pos hi]
    have hd : wholeR Ieee.double way s (upR r) = upR r := by
      unfold wholeR
      by_cases hq : 0 ≤ placeOf Ieee.double (upR r)
      · rw [if_pos hq]
      · rw [if_neg hq]
        have hm : magOf Ieee.double (upR r) = (magOf Ieee.single r * 2 ^ (placeOf Ieee.single r).toNat) * 2 ^ (-placeOf Ieee.double (upR r)).toNat := by
          have e : (placeOf Ieee.single r + 1074).toNat = (placeOf Ieee.single r).toNat + (-placeOf Ieee.double (upR r)).toNat + (placeOf Ieee.double (upR r) + 1074).toNat := by omega
          rw [e, Nat.pow_add, Nat.pow_add, ← Nat.mul_assoc, ← Nat.mul_assoc] at hval
          exact Nat.mul_right_cancel (Nat.two_pow_pos _) hval
        have hu : upBit way s (magOf Ieee.double (upR r)) (-placeOf Ieee.double (upR r)).toNat = false := by
          cases hh : upBit way s (magOf Ieee.double (upR r)) (-placeOf Ieee.double (upR r)).toNat with
          | false => rfl
          | true => have := upBit_rem hh; rw [hm, Nat.mul_mod_left] at this; exact absurd rfl this
        rw [hu]
        have : magOf Ieee.double (upR r) / 2 ^ (-placeOf Ieee.double (upR r)).toNat = magOf Ieee.single r * 2 ^ (placeOf Ieee.single r).toNat := by
          rw [hm, Nat.mul_div_cancel _ (Nat.two_pow_pos _)]
        rw [this]
        simp only [Bool.toNat_false, Nat.add_zero]
        have h1 := rung_scale Ieee.double (magOf Ieee.single r) (placeOf Ieee.single r).toNat (placeOf Ieee.single r)
        rw [show placeOf Ieee.single r - ((placeOf Ieee.single r).toNat : Nat) = 0 by omega] at h1
        rw [h1]
        unfold upR; rw [if_pos h]
    rw [hw, hd]; exact downR h
  · obtain ⟨q, hq⟩ : ∃ q, q = magOf Ieee.single r / 2 ^ (-placeOf Ieee.single r).toNat + (upBit way s (magOf Ieee.single r) (-placeOf Ieee.single r).toNat).toNat := ⟨_, rfl⟩
    have hw : wholeR Ieee.single way s r = rungOf Ieee.single q 0 := by unfold wholeR; rw [if_neg hi, hq]
    rw [hw]
    have key : val Ieee.double (wholeR Ieee.double way s (upR r)) = q * 2 ^ (0 + 1074 : Int).toNat := by
      by_cases hp64 : 0 ≤ placeOf Ieee.double (upR r)
      · have hd : wholeR Ieee.double way s (upR r) = upR r := by unfold wholeR; rw [if_pos hp64]
        have hm : magOf Ieee.single r = (magOf Ieee.double (upR r) * 2 ^ (placeOf Ieee.double (upR r)).toNat) * 2 ^ (-placeOf Ieee.single r).toNat := by
          have e : (placeOf Ieee.double (upR r) + 1074).toNat = (placeOf Ieee.double (upR r)).toNat + (-placeOf Ieee.single r).toNat + (placeOf Ieee.single r + 1074).toNat := by omega
          rw [e, Nat.pow_add, Nat.pow_add, ← Nat.mul_assoc, ← Nat.mul_assoc] at hval
          exact (Nat.mul_right_cancel (Nat.two_pow_pos _) hval).symm
        have hu : upBit way s (magOf Ieee.single r) (-placeOf Ieee.single r).toNat = false := by
          cases hh : upBit way s (magOf Ieee.single r) (-placeOf Ieee.single r).toNat with
          | false => rfl
          | true => have := upBit_rem hh; rw [hm, Nat.mul_mod_left] at this; exact absurd rfl this
        have hq2 : q = magOf Ieee.double (upR r) * 2 ^ (placeOf Ieee.double (upR r)).toNat := by
          rw [hq, hu, hm, Nat.mul_div_cancel _ (Nat.two_pow_pos _)]; rfl
        rw [hd, hq2]
        unfold val
        rw [dLP, Nat.mul_assoc, ← Nat.pow_add]; congr 2; omega
      · have hq2 : q = magOf Ieee.double (upR r) / 2 ^ (-placeOf Ieee.double (upR r)).toNat + (upBit way s (magOf Ieee.double (upR r)) (-placeOf Ieee.double (upR r)).toNat).toNat := by
          have a := upBit_scale way s (magOf Ieee.single r) (-placeOf Ieee.single r).toNat (placeOf Ieee.single r + 1074).toNat
          have b := upBit_scale way s (magOf Ieee.double (upR r)) (-placeOf Ieee.double (upR r)).toNat (placeOf Ieee.double (upR r) + 1074).toNat
          rw [show (-placeOf Ieee.single r).toNat + (placeOf Ieee.single r + 1074).toNat = 1074 by omega, ← hval] at a
          rw [show (-placeOf Ieee.double (upR r)).toNat + (placeOf Ieee.double (upR r) + 1074).toNat = 1074 by omega] at b
          rw [hq, ← a.1, ← a.2, b.1, b.2]
        have hv2 := (whole_val fits_double (way := way) (s := s) hp64).1
        rw [← hq2, dLP] at hv2
        rw [hv2]; congr 2
    exact rung32_of_val key (by omega)
/-- the whole part of a float of 32 bits -/
def fwhole32 (way : Toward) (x : Int) : Int := fconvI .f64 .f32 (fwholeI way (fconvI .f32 .f64 x))
/-- the sign's part of a word -/
def sh (x : Int) : Int := if 2147483648 ≤ x then 2147483648 else 0
def rgV (way : Toward) (x : Int) : Nat := if mg .f32 x = kI .f32 then (mg .f32 x).toNat else wholeR Ieee.single way (decide (kM .f32 ≤ x)) (mg .f32 x).toNat
theorem fwhole32_word {way : Toward} {x : Int} (hx : 0 ≤ x ∧ x ≤ topF .f32) (h : mg .f32 x ≤ kI .f32) : fwhole32 way x = sh x + (rgV way x : Int) ∧ rgV way x ≤ 2139095040 ∧ (mg .f32 x < kI .f32 → rgV way x < 2139095040) := by
  obtain ⟨g1, g2, g3, g4, _⟩ := upW_facts hx h
  have hp := (mg_pos hx).1
  have hu : fwhole32 way x = fconvI .f64 .f32 (fwholeI way (upW x)) := by unfold fwhole32; rw [conv_up hx h]
  obtain ⟨w1, w2, w3⟩ := fwhole_word (way := way) g1 g3
  have hsd : decide (kM .f64 ≤ upW x) = decide (2147483648 ≤ x) := by
    by_cases hh : 2147483648 ≤ x
    · rw [decide_eq_true hh, decide_eq_true (g4.2 hh)]
    · rw [decide_eq_false hh, decide_eq_false (fun c => hh (g4.1 c))]
  have hsg : sg (upW x) = if decide (2147483648 ≤ x) = true then 9223372036854775808 else 0 := by
    have e : sg (upW x) = if 9223372036854775808 ≤ upW x then 9223372036854775808 else 0 := rfl
    have g4' : (9223372036854775808 : Int) ≤ upW x ↔ 2147483648 ≤ x := g4
    rw [e]
    by_cases hh : 2147483648 ≤ x
    · rw [if_pos (g4'.2 hh), if_pos (decide_eq_true hh)]
    · rw [if_neg (fun c => hh (g4'.1 c)), if_neg (by simpa using hh)]
  have hsh : sh x = if decide (2147483648 ≤ x) = true then 2147483648 else 0 := by
    have e : sh x = if 2147483648 ≤ x then 2147483648 else 0 := rfl
    rw [e]
    by_cases hh : 2147483648 ≤ x
    · rw [if_pos hh, if_pos (decide_eq_true hh)]
    · rw [if_neg hh, if_neg (by simpa using hh)]
  rcases Int.lt_or_eq_of_le h with h1 | h1
  · have hr : (mg .f32 x).toNat < 2139095040 := by rw [kI32] at h1; omega
    have hlt := (upR_val hr).2
    have e1 : rgW way (upW x) = wholeR Ieee.double way (decide (2147483648 ≤ x)) (upR (mg .f32 x).toNat) := by
      unfold rgW; rw [if_neg (by rw [g2, kI64]; omega), g2, Int.toNat_natCast, hsd]
    have e2 : rgV way x = wholeR Ieee.single way (decide (2147483648 ≤ x)) (mg .f32 x).toNat := by
      unfold rgV; rw [if_neg (by omega)]; rfl
    have b1 : wholeR Ieee.double way (decide (2147483648 ≤ x)) (upR (mg .f32 x).toNat) < Ieee.double.infRung := whole_lt fits_double (by rw [dIR]; exact hlt)
    have b2 : wholeR Ieee.single way (decide (2147483648 ≤ x)) (mg .f32 x).toNat < Ieee.single.infRung := whole_lt fits_single (by rw [sIR]; exact hr)
    have hwd := whole_down hr way (decide (2147483648 ≤ x))
    rw [e2]
    rw [sIR] at b2
    refine ⟨?_, Nat.le_of_lt b2, fun _ => b2⟩
    rw [hu, w1, hsg, e1, ← word64]
    generalize wholeR Ieee.double way (decide (2147483648 ≤ x)) (upR (mg .f32 x).toNat) = ρ at *
    generalize wholeR Ieee.single way (decide (2147483648 ≤ x)) (mg .f32 x).toNat = σ at *
    obtain ⟨m1, m2⟩ := mod_word Ieee.double (decide (2147483648 ≤ x)) (r := ρ) (by rw [dSW]; rw [dIR] at b1; omega)
    have hd : FloatKind.f64.decode (((Ieee.double.word (decide (2147483648 ≤ x)) ρ : Nat) : Int)).toNat = .number (decide (2147483648 ≤ x)) (magOf Ieee.double ρ) (placeOf Ieee.double ρ) := by
      rw [Int.toNat_natCast]
      have := read_fin Ieee.double (w := Ieee.double.word (decide (2147483648 ≤ x)) ρ) (by rw [m1]; exact b1)
      rw [m1, m2] at this; exact this
    have e : Ieee.single.nearest (decide (2147483648 ≤ x)) (magOf Ieee.double ρ) (placeOf Ieee.double ρ) = Ieee.single.word (decide (2147483648 ≤ x)) σ := by
      rw [nearest_rung, hwd]
    have hi : (FloatKind.f32.decode (FloatKind.f32.encode (.number (decide (2147483648 ≤ x)) (magOf Ieee.double ρ) (placeOf Ieee.double ρ)))).isInfinity = false := by
      show (Ieee.single.read (Ieee.single.nearest _ _ _)).isInfinity = false
      rw [e]; exact read_word_fin _ _ (by rw [sIR]; exact b2)
    unfold fconvI
    rw [hd]
    simp only
    rw [if_neg (by rw [hi]; simp)]
    show ((Ieee.single.nearest _ _ _ : Nat) : Int) = _
    rw [e, word32, hsh]
  · have e2 : rgV way x = (mg .f32 x).toNat := by unfold rgV; rw [if_pos h1]
    have hq : upR (mg .f32 x).toNat = 9218868437227405312 := by unfold upR; rw [if_neg (by rw [kI32] at h1; omega)]
    have e1 : rgW way (upW x) = 9218868437227405312 := by unfold rgW; rw [if_pos (by rw [g2, hq]; rfl), g2, hq]; rfl
    have eU : upW x = sg (upW x) + 9218868437227405312 := by
      have : upW x = (if 2147483648 ≤ x then 9223372036854775808 else 0) + (upR (mg .f32 x).toNat : Int) := rfl
      rw [hq] at this
      rw [hsg]
      by_cases hh : 2147483648 ≤ x
      · rw [if_pos hh] at this; rw [if_pos (decide_eq_true hh)]; exact this
      · rw [if_neg hh] at this; rw [if_neg (by simpa using hh)]; exact this
    have ew : fwholeI way (upW x) = upW x := by rw [w1, e1]; exact eU.symm
    rw [hu, ew, conv_down hx h, e2]
    rw [kI32] at h1
    refine ⟨?_, by omega, fun hh => by rw [kI32] at hh; omega⟩
    have : mg .f32 x = if kM .f32 ≤ x then x - kM .f32 else x := rfl
    rw [kM32] at this
    rw [hsh]
    by_cases hh : 2147483648 ≤ x
    · rw [if_pos hh] at this; rw [if_pos (decide_eq_true hh)]; omega
    · rw [if_neg hh] at this; rw [if_neg (by simpa using hh)]; omega
theorem sh_add {x : Int} {r : Nat} (hr : r ≤ 2139095040) : (0 ≤ sh x + (r : Int) ∧ sh x + (r : Int) ≤ topF .f32) ∧ mg .f32 (sh x + (r : Int)) = r ∧ (kM .f32 ≤ sh x + (r : Int) ↔ kM .f32 ≤ x) ∧ ky .f32 (sh x + (r : Int)) = if 2147483648 ≤ x then -(r : Int) else r := by
  have e : sh x = if 2147483648 ≤ x then 2147483648 else 0 := rfl
  have t : topF .f32 = 4294967295 := rfl
  unfold mg ky
  rw [kM32, t]
  by_cases h : 2147483648 ≤ x
  · rw [if_pos h] at e
    rw [e, if_pos (by omega), if_pos (by omega), if_pos h]
    omega
  · rw [if_neg h] at e
    rw [e, if_neg (by omega), if_neg (by omega), if_neg h]
    omega
theorem ky_y {x : Int} (_hx : 0 ≤ x ∧ x ≤ topF .f32) : ky .f32 x = if 2147483648 ≤ x then -(mg .f32 x) else mg .f32 x := by
  unfold ky mg; rw [kM32]; split <;> omega
section
variable {x : Int} (hx : 0 ≤ x ∧ x ≤ topF .f32) (h : mg .f32 x ≤ kI .f32)
include hx h
theorem rh_again (w1 w2 : Toward) : fwhole32 w2 (sh x + (rgV w1 x : Int)) = sh x + (rgV w1 x : Int) := by
  obtain ⟨_, r1, r2⟩ := fwhole32_word (way := w1) hx h
  obtain ⟨g1, g2, g3, _⟩ := sh_add (x := x) r1
  have hk : kI .f32 = 2139095040 := rfl
  obtain ⟨e, _, _⟩ := fwhole32_word (way := w2) g1 (by rw [g2, hk]; omega)
  rw [e]
  have hs : sh (sh x + (rgV w1 x : Int)) = sh x := by
    have g3' : (2147483648 : Int) ≤ sh x + (rgV w1 x : Int) ↔ 2147483648 ≤ x := g3
    show (if (2147483648 : Int) ≤ sh x + (rgV w1 x : Int) then 2147483648 else 0) = _
    unfold sh at g3' ⊢
    by_cases hh : 2147483648 ≤ x
    · rw [if_pos (g3'.2 hh), if_pos hh]
    · rw [if_neg (fun c => hh (g3'.1 c)), if_neg hh]
  rw [hs]
  have hr : rgV w2 (sh x + (rgV w1 x : Int)) = rgV w1 x := by
    have hq : rgV w2 (sh x + (rgV w1 x : Int)) = if mg .f32 (sh x + (rgV w1 x : Int)) = kI .f32 then (mg .f32 (sh x + (rgV w1 x : Int))).toNat else wholeR Ieee.single w2 (decide (kM .f32 ≤ sh x + (rgV w1 x : Int))) (mg .f32 (sh x + (rgV w1 x : Int))).toNat := rfl
    rw [hq, g2, Int.toNat_natCast]
    by_cases hi : ((rgV w1 x : Nat) : Int) = kI .f32
    · rw [if_pos hi]
    · rw [if_neg hi]
      by_cases hm : mg .f32 x = kI .f32
      · exfalso; apply hi
        have : rgV w1 x = (mg .f32 x).toNat := by unfold rgV; rw [if_pos hm]
        rw [this, hm]; decide
      · have : rgV w1 x = wholeR Ieee.single w1 (decide (kM .f32 ≤ x)) (mg .f32 x).toNat := by unfold rgV; rw [if_neg hm]
        rw [this]; exact whole_again fits_single w2 _
  rw [hr]
theorem rh_le (way : Toward) (hu : ∀ r d, upBit way (decide (kM .f32 ≤ x)) r d = false) : (rgV way x : Int) ≤ mg .f32 x := by
  have hp := (mg_pos hx).1
  unfold rgV
  by_cases hm : mg .f32 x = kI .f32
  · rw [if_pos hm]; omega
  · rw [if_neg hm]
    have := whole_le (f := Ieee.single) (way := way) (s := decide (kM .f32 ≤ x)) (r := (mg .f32 x).toNat) (by rw [sIR]; have : kI .f32 = 2139095040 := rfl; omega) (hu _ _)
    omega
theorem rh_ge (way : Toward) (hu : ∀ r d, upBit way (decide (kM .f32 ≤ x)) r d = true ∨ r % 2 ^ d = 0) : mg .f32 x ≤ (rgV way x : Int) := by
  have hp := (mg_pos hx).1
  unfold rgV
  by_cases hm : mg .f32 x = kI .f32
  · rw [if_pos hm]; omega
  · rw [if_neg hm]
    have := whole_ge (f := Ieee.single) (way := way) (s := decide (kM .f32 ≤ x)) (r := (mg .f32 x).toNat) (by rw [sIR]; have : kI .f32 = 2139095040 := rfl; omega) (hu _ _)
    omega
theorem rh_down : ky .f32 (sh x + (rgV .down x : Int)) ≤ ky .f32 x := by
  obtain ⟨_, r1, _⟩ := fwhole32_word (way := .down) hx h
  rw [(sh_add (x := x) r1).2.2.2, ky_y hx]
  by_cases hs : 2147483648 ≤ x
  · rw [if_pos hs, if_pos hs]
    have := rh_ge hx h .down (fun r d => by
      have : decide (kM .f32 ≤ x) = true := decide_eq_true hs
      rw [this]; unfold upBit
      by_cases hz : r % 2 ^ d = 0
      · exact .inr hz
      · exact .inl (by simp [hz]))
    omega
  · rw [if_neg hs, if_neg hs]
    exact rh_le hx h .down fun r d => by
      have : decide (kM .f32 ≤ x) = false := decide_eq_false hs
      rw [this]; unfold upBit; simp
theorem rh_up : ky .f32 x ≤ ky .f32 (sh x + (rgV .up x : Int)) := by
  obtain ⟨_, r1, _⟩ := fwhole32_word (way := .up) hx h
  rw [(sh_add (x := x) r1).2.2.2, ky_y hx]
  by_cases hs : 2147483648 ≤ x
  · rw [if_pos hs, if_pos hs]
    have := rh_le hx h .up (fun r d => by
      have : decide (kM .f32 ≤ x) = true := decide_eq_true hs
      rw [this]; unfold upBit; simp)
    omega
  · rw [if_neg hs, if_neg hs]
    exact rh_ge hx h .up fun r d => by
      have : decide (kM .f32 ≤ x) = false := decide_eq_false hs
      rw [this]; unfold upBit
      by_cases hz : r % 2 ^ d = 0
      · exact .inr hz
      · exact .inl (by simp [hz])
omit hx h in
theorem rh_one (way : Toward) : rgV way x = rgV .up x ∨ rgV way x = rgV .down x := by
  unfold rgV
  by_cases hm : mg .f32 x = kI .f32
  · rw [if_pos hm, if_pos hm]; exact .inl rfl
  · rw [if_neg hm, if_neg hm, if_neg hm]
    generalize decide (kM .f32 ≤ x) = s
    generalize (mg .f32 x).toNat = r
    have key : ∀ w : Toward, upBit way s (magOf Ieee.single r) (-placeOf Ieee.single r).toNat = upBit w s (magOf Ieee.single r) (-placeOf Ieee.single r).toNat → wholeR Ieee.single way s r = wholeR Ieee.single w s r := fun w hh => whole_same hh
    generalize magOf Ieee.single r = m at key
    generalize (-placeOf Ieee.single r).toNat = d at key
    by_cases hz : m % 2 ^ d = 0
    · left
      apply key
      have h1 : ∀ w, upBit w s m d = false := fun w => by
        cases hu : upBit w s m d with
        | false => rfl
        | true => exact absurd hz (upBit_rem hu)
      rw [h1, h1]
    · have hu : upBit .up s m d = !s := by unfold upBit; simp [hz]
      have hd : upBit .down s m d = s := by unfold upBit; simp [hz]
      cases hq : upBit way s m d with
      | true => cases s with
        | false => exact .inl (key _ (by rw [hq, hu]; rfl))
        | true => exact .inr (key _ (by rw [hq, hd]))
      | false => cases s with
        | false => exact .inr (key _ (by rw [hq, hd]))
        | true => exact .inl (key _ (by rw [hq, hu]; rfl))
end
theorem num_of_conv {x : Int} (hx : 0 ≤ x ∧ x ≤ topF .f32) (h : ¬ fconvI .f32 .f64 x = -1) : mg .f32 x ≤ kI .f32 := by
  rcases Int.lt_or_le (kI .f32) (mg .f32 x) with hn | hn
  · exfalso; apply h
    rw [← conv_nan]
    have hd : FloatKind.f32.decode x.toNat = .nan _ _ := read_nan Ieee.single (by decide) ((nan_nat (k := .f32) hx).2 hn)
    rw [hd]; rfl
  · exact hn
theorem conv_num {x : Int} (hx : 0 ≤ x ∧ x ≤ topF .f32) (h : mg .f32 x ≤ kI .f32) : ¬ fconvI .f32 .f64 x = -1 := by
  rw [conv_up hx h]; have := (upW_facts hx h).1.1; omega
theorem conv_bad {x : Int} (hx : 0 ≤ x ∧ x ≤ topF .f32) (h : kI .f32 < mg .f32 x) : fconvI .f32 .f64 x = -1 := by
  rw [← conv_nan]
  have hd : FloatKind.f32.decode x.toNat = .nan _ _ := read_nan Ieee.single (by decide) ((nan_nat (k := .f32) hx).2 h)
  rw [hd]; rfl
theorem whole32_rng {x : Int} (hx : 0 ≤ x ∧ x ≤ topF .f32) (way : Toward) (h : ¬ fconvI .f32 .f64 x = -1) : 0 ≤ fconvI .f64 .f32 (fwholeI way (fconvI .f32 .f64 x)) ∧ fconvI .f64 .f32 (fwholeI way (fconvI .f32 .f64 x)) ≤ topF .f32 := by
  have hn := num_of_conv hx h
  obtain ⟨e, r1, _⟩ := fwhole32_word (way := way) hx hn
  have e' : fconvI .f64 .f32 (fwholeI way (fconvI .f32 .f64 x)) = sh x + (rgV way x : Int) := e
  rw [e']; exact (sh_add (x := x) r1).1
theorem whole32_ne {way : Toward} {a : Int} (h : ¬ fconvI .f32 .f64 (IntKind.u32.wrap a) = -1) : fconvI .f64 .f32 (fwholeI way (fconvI .f32 .f64 (IntKind.u32.wrap a))) ≠ -2 := by
  rw [w32_eq] at *
  have := (whole32_rng (w32_in a) way h).1
  omega
end Go.Sx

/- The reference's whole part of a single, and how a single is taken apart. No condition. -/
namespace Go.Sx.Ref
set_option linter.unusedVariables false
open Go Go.Sx Go.Sx.Flt Ieee
theorem mgD3 {x : Int} (hx : 0 ≤ x ∧ x ≤ 4294967295) : mg .f32 x = x % 2147483648 := by
  unfold mg
  rw [kM32]
  split <;> omega
theorem magD3 {x : Int} (hx : 0 ≤ x ∧ x ≤ 4294967295) (h : x % 2147483648 < 2139095040) :
    iteP (x % 2147483648 < 8388608) (x % 2147483648) (iteP (x % 2147483648 < 2139095040) (8388608 + x % 2147483648 % 8388608) (x % 2147483648 - 2139095040)) = (mO .f32 x : Int) := by
  have hb : FloatKind.f32.format.binade = 8388608 := by decide
  unfold mO magOf
  rw [hb, mgD3 hx]
  by_cases c : x % 2147483648 < 8388608
  · rw [iteP_pos c, if_pos (by omega)]; omega
  · rw [iteP_neg c, iteP_pos h, if_neg (by omega)]; omega
theorem plcD3 {x : Int} (hx : 0 ≤ x ∧ x ≤ 4294967295) (h : x % 2147483648 < 2139095040) :
    iteP (x % 2147483648 < 8388608) (-149) (iteP (x % 2147483648 < 2139095040) (-150 + x % 2147483648 / 8388608) 0) = pO .f32 x := by
  have hb : FloatKind.f32.format.binade = 8388608 := by decide
  have hl : FloatKind.f32.format.leastPlace = -149 := by decide
  unfold pO placeOf
  rw [hb, hl, mgD3 hx]
  by_cases c : x % 2147483648 < 8388608
  · rw [iteP_pos c, if_pos (by omega)]
  · rw [iteP_neg c, iteP_pos h, if_neg (by omega)]; omega
theorem pO_in3 {x : Int} (hx : 0 ≤ x ∧ x ≤ 4294967295) (h : x % 2147483648 < 2139095040) : -149 ≤ pO .f32 x ∧ pO .f32 x ≤ 104 := by
  rw [← plcD3 hx h]
  exact iteP_in (fun _ => by omega) fun _ => iteP_in (fun _ => by omega) fun _ => by omega
theorem mO_in3 (x : Int) : 0 ≤ (mO .f32 x : Int) ∧ (mO .f32 x : Int) ≤ 16777215 := by
  have := mag_lt Ieee.single (mg .f32 x).toNat
  rw [show Ieee.single.binade = 8388608 by decide] at this
  unfold mO
  have e : FloatKind.f32.format = Ieee.single := rfl
  rw [e]; omega
theorem mO_null3 {x : Int} (hx : 0 ≤ x ∧ x ≤ 4294967295) (h : x % 2147483648 < 2139095040) : (mO .f32 x : Int) = 0 ↔ x % 2147483648 = 0 := by
  have := mO_zero (k := .f32) (x := x) hx (by rw [mgD3 hx]; exact h)
  rw [mgD3 hx] at this
  omega
theorem fn4_word3 (N : Nat) (e : Int) : fnG 5 (N : Int) e 0 = ((rungOf Ieee.single N e : Nat) : Int) := rfl
end Go.Sx.Ref

/- What the reference's operations of two doubles come to. No condition. -/
namespace Go.Sx.Ref
set_option linter.unusedVariables false
open Go Go.Sx Go.Sx.Flt Ieee
theorem iteP_case {p : Prop} {V a b : Int} (h1 : p → V = a) (h2 : ¬ p → V = b) : V = iteP p a b := by
  by_cases g : p
  · rw [iteP_pos g]; exact h1 g
  · rw [iteP_neg g]; exact h2 g
theorem iteP_casel {p : Prop} {V a b : Int} (h1 : p → a = V) (h2 : ¬ p → b = V) : iteP p a b = V := (iteP_case (fun h => (h1 h).symm) (fun h => (h2 h).symm)).symm
theorem den_bitsP (ρ : Env) (op : BinOp) (k : IntKind) (a b : E) : (E.bin (.bits op k) a b).den ρ = bitI op k (a.den ρ) (b.den ρ) := rfl
theorem den_mulP (ρ : Env) (a b : E) : (E.bin .mul a b).den ρ = a.den ρ * b.den ρ := rfl
theorem wID (s : Bool) (r : Nat) : wI .f64 s r = (if s then 9223372036854775808 else 0) + r := wI_eq _ _ _
theorem iR : FloatKind.f64.format.infRung = 9218868437227405312 := by decide
theorem sOD (x : Int) : (sO .f64 x = true ↔ 9223372036854775808 ≤ x) := by unfold sO; rw [decide_eq_true_iff]; exact Iff.rfl
structure Word (x m p : Int) : Prop where
  r : 0 ≤ x ∧ x ≤ 18446744073709551615
  m : x % 9223372036854775808 < 9218868437227405312 → m = (mO .f64 x : Int)
  p : x % 9223372036854775808 < 9218868437227405312 → p = pO .f64 x
theorem word_of {x m p : Int} (hx : 0 ≤ x ∧ x ≤ 18446744073709551615) (a : m = iteP (x % 9223372036854775808 < 4503599627370496) (x % 9223372036854775808) (iteP (x % 9223372036854775808 < 9218868437227405312) (4503599627370496 + x % 9223372036854775808 % 4503599627370496) (x % 9223372036854775808 - 9218868437227405312)))
    (b : p = iteP (x % 9223372036854775808 < 4503599627370496) (-1074) (iteP (x % 9223372036854775808 < 9218868437227405312) (-1075 + x % 9223372036854775808 / 4503599627370496) 0)) : Word x m p :=
  ⟨hx, fun h => a.trans (magD hx h), fun h => b.trans (plcD hx h)⟩
theorem far_nanD {op : BinOp} {x y : Int} (hx : 0 ≤ x ∧ x ≤ 18446744073709551615) (hy : 0 ≤ y ∧ y ≤ 18446744073709551615) (h : 9218868437227405312 < x % 9223372036854775808 ∨ 9218868437227405312 < y % 9223372036854775808) : farI op .f64 x y = -1 :=
  far_nan (k := .f64) hx hy (by rw [mgD hx, mgD hy]; exact h)
theorem inf_word {s : Bool} {q : Prop} (h : s = true ↔ q) : wI .f64 s FloatKind.f64.format.infRung = iteP q 18442240474082181120 9218868437227405312 := by
  rw [wID, iR]
  cases s
  · rw [iteP_neg (fun g => by have := h.2 g; contradiction)]; rfl
  · rw [iteP_pos (h.1 rfl)]; rfl
theorem sgn_word {s : Bool} {q : Prop} (h : s = true ↔ q) (r : Nat) : wI .f64 s r = iteP q 9223372036854775808 0 + r := by
  rw [wID]
  cases s
  · rw [iteP_neg (fun g => by have := h.2 g; contradiction)]; rfl
  · rw [iteP_pos (h.1 rfl)]; rfl
theorem add_code {x y m1 p1 m2 p2 c1 c2 N : Int} {q : Prop} (b : Bool) (X : Word x m1 p1) (Y : Word y m2 p2) (h1 : c1 = iteP (9223372036854775808 ≤ x) 1 0) (h2 : c2 = iteP q 1 0) (hq : (sO .f64 y ^^ b) = true ↔ q) :
    iteP ((9218868437227405312 < x % 9223372036854775808 ∨ 9218868437227405312 < y % 9223372036854775808) ∨ (x % 9223372036854775808 = 9218868437227405312 ∧ y % 9223372036854775808 = 9218868437227405312) ∧ ¬ c1 = c2) N
      (iteP (x % 9223372036854775808 = 9218868437227405312) (iteP (9223372036854775808 ≤ x) 18442240474082181120 9218868437227405312)
        (iteP (y % 9223372036854775808 = 9218868437227405312) (iteP q 18442240474082181120 9218868437227405312) (fnG 6 (m1 * 4096 + (p1 + 2048)) (m2 * 4096 + (p2 + 2048)) (c1 * 2 + c2)))) =
      iteP (farI (if b then .sub else .add) .f64 x y = -1) N (farI (if b then .sub else .add) .f64 x y) := by
  by_cases hn : 9218868437227405312 < x % 9223372036854775808 ∨ 9218868437227405312 < y % 9223372036854775808
  · rw [iteP_pos (.inl hn), iteP_pos (far_nanD X.r Y.r hn)]
  · have nx : mg .f64 x ≤ kI .f64 := by rw [mgD X.r, kI64]; omega
    have ny : mg .f64 y ≤ kI .f64 := by rw [mgD Y.r, kI64]; omega
    have F := far_sum (k := .f64) b X.r Y.r nx ny
    rw [mgD X.r, mgD Y.r, kI64] at F
    have s1 := sOD x
    have e1 : (c1 == 1) = sO .f64 x := by
      rw [h1]
      by_cases h : 9223372036854775808 ≤ x
      · rw [iteP_pos h, s1.2 h]; rfl
      · rw [iteP_neg h, Bool.eq_false_iff.2 (fun g => h (s1.1 g))]; rfl
    have e2 : (c2 == 1) = (sO .f64 y ^^ b) := by
      rw [h2]
      by_cases h : q
      · rw [iteP_pos h, hq.2 h]; rfl
      · rw [iteP_neg h, Bool.eq_false_iff.2 (fun g => h (hq.1 g))]; rfl
    have c01 : (c1 = 0 ∨ c1 = 1) ∧ (c2 = 0 ∨ c2 = 1) := by
      rw [h1, h2]
      unfold iteP
      constructor <;> split <;> simp
    have ec : (¬ c1 = c2) ↔ sO .f64 x ≠ (sO .f64 y ^^ b) := by
      rw [← e1, ← e2]
      rcases c01.1 with h | h <;> rcases c01.2 with g | g <;> rw [h, g] <;> decide
    rw [F]
    by_cases ix : x % 9223372036854775808 = 9218868437227405312
    · rw [if_pos ix]
      by_cases iy : y % 9223372036854775808 = 9218868437227405312 ∧ sO .f64 x ≠ (sO .f64 y ^^ b)
      · rw [if_pos iy, iteP_pos (.inr ⟨⟨ix, iy.1⟩, ec.2 iy.2⟩), iteP_pos rfl]
      · rw [if_neg iy, iteP_neg (fun h => h.elim hn fun g => iy ⟨g.1.2, ec.1 g.2⟩), iteP_pos ix, inf_word s1]
        refine canon ?_
        exact (iteP_in (l := 0) (h := 18446744073709551615) (fun _ => by omega) (fun _ => by omega)).1
    · rw [if_neg ix, iteP_neg (fun h => h.elim hn fun g => ix g.1.1), iteP_neg ix]
      by_cases iy : y % 9223372036854775808 = 9218868437227405312
      · rw [if_pos iy, iteP_pos iy, inf_word hq]
        refine canon ?_
        exact (iteP_in (l := 0) (h := 18446744073709551615) (fun _ => by omega) (fun _ => by omega)).1
      · rw [if_neg iy, iteP_neg iy]
        have px := pO_in X.r (show x % 9223372036854775808 < 9218868437227405312 by omega)
        have py := pO_in Y.r (show y % 9223372036854775808 < 9218868437227405312 by omega)
        rw [X.m (by omega), X.p (by omega), Y.m (by omega), Y.p (by omega), fn6 c01.1 c01.2 (mO_in x).1 (mO_in y).1 (by omega) (by omega), e1, e2, Int.toNat_natCast, Int.toNat_natCast]
        exact canon (sumC_in _ _ _ _ _ _).1
theorem xor_q (x y : Int) : ((sO .f64 x ^^ sO .f64 y) = true ↔ ¬ iteP (9223372036854775808 ≤ x) 1 0 = iteP (9223372036854775808 ≤ y) 1 0) := by
  have s1 := sOD x
  have s2 := sOD y
  by_cases h : 9223372036854775808 ≤ x <;> by_cases g : 9223372036854775808 ≤ y <;> simp [h, g, iteP_pos, iteP_neg, s1.2, s2.2, Bool.eq_false_iff.2, s1, s2]
theorem mul_code {x y m1 p1 m2 p2 N : Int} (X : Word x m1 p1) (Y : Word y m2 p2) :
    iteP ((9218868437227405312 < x % 9223372036854775808 ∨ 9218868437227405312 < y % 9223372036854775808) ∨ (x % 9223372036854775808 = 9218868437227405312 ∧ ¬ y % 9223372036854775808 = 9218868437227405312 ∧ m2 = 0) ∨ (y % 9223372036854775808 = 9218868437227405312 ∧ ¬ x % 9223372036854775808 = 9218868437227405312 ∧ m1 = 0)) N
      (iteP (x % 9223372036854775808 = 9218868437227405312 ∨ y % 9223372036854775808 = 9218868437227405312) (iteP (¬ iteP (9223372036854775808 ≤ x) 1 0 = iteP (9223372036854775808 ≤ y) 1 0) 18442240474082181120 9218868437227405312)
        (iteP (¬ iteP (9223372036854775808 ≤ x) 1 0 = iteP (9223372036854775808 ≤ y) 1 0) 9223372036854775808 0 + fnG 4 (m1 * m2) (p1 + p2) 0)) =
      iteP (farI .mul .f64 x y = -1) N (farI .mul .f64 x y) := by
  by_cases hn : 9218868437227405312 < x % 9223372036854775808 ∨ 9218868437227405312 < y % 9223372036854775808
  · rw [iteP_pos (.inl hn), iteP_pos (far_nanD X.r Y.r hn)]
  · have nx : mg .f64 x ≤ kI .f64 := by rw [mgD X.r, kI64]; omega
    have ny : mg .f64 y ≤ kI .f64 := by rw [mgD Y.r, kI64]; omega
    have F := far_mul (k := .f64) X.r Y.r nx ny
    rw [mgD X.r, mgD Y.r, kI64] at F
    have hq := xor_q x y
    have zx : x % 9223372036854775808 < 9218868437227405312 → (m1 = 0 ↔ x % 9223372036854775808 = 0) := fun h => by rw [X.m h]; exact mO_null X.r h
    have zy : y % 9223372036854775808 < 9218868437227405312 → (m2 = 0 ↔ y % 9223372036854775808 = 0) := fun h => by rw [Y.m h]; exact mO_null Y.r h
    have ec : ((9218868437227405312 < x % 9223372036854775808 ∨ 9218868437227405312 < y % 9223372036854775808) ∨ (x % 9223372036854775808 = 9218868437227405312 ∧ ¬ y % 9223372036854775808 = 9218868437227405312 ∧ m2 = 0) ∨ (y % 9223372036854775808 = 9218868437227405312 ∧ ¬ x % 9223372036854775808 = 9218868437227405312 ∧ m1 = 0)) ↔
        ((x % 9223372036854775808 = 9218868437227405312 ∧ y % 9223372036854775808 = 0) ∨ (y % 9223372036854775808 = 9218868437227405312 ∧ x % 9223372036854775808 = 0)) := by omega
    rw [F]
    by_cases c : (x % 9223372036854775808 = 9218868437227405312 ∧ y % 9223372036854775808 = 0) ∨ (y % 9223372036854775808 = 9218868437227405312 ∧ x % 9223372036854775808 = 0)
    · rw [if_pos c, iteP_pos (ec.2 c), iteP_pos rfl]
    · rw [if_neg c, iteP_neg (fun h => c (ec.1 h))]
      by_cases d : x % 9223372036854775808 = 9218868437227405312 ∨ y % 9223372036854775808 = 9218868437227405312
      · rw [if_pos d, iteP_pos d, inf_word hq]
        refine canon ?_
        exact (iteP_in (l := 0) (h := 18446744073709551615) (fun _ => by omega) (fun _ => by omega)).1
      · rw [if_neg d, iteP_neg d, sgn_word hq, X.m (by omega), Y.m (by omega), X.p (by omega), Y.p (by omega), ← Int.natCast_mul, fn4_word]
        refine canon ?_
        have := iteP_in (p := ¬ iteP (9223372036854775808 ≤ x) 1 0 = iteP (9223372036854775808 ≤ y) 1 0) (a := 9223372036854775808) (b := 0) (l := 0) (h := 18446744073709551615) (fun _ => by omega) (fun _ => by omega)
        omega
theorem fn8_code {X i Y j : Int} (hX : 0 ≤ X) (hY : 0 ≤ Y) (hi : -1074 ≤ i ∧ i ≤ 971) (hj : -1074 ≤ j ∧ j ≤ 971) : fnG 8 (X * 4096 + (i + 2048)) (Y * 4096 + (j + 2048)) 0 = (quoC Ieee.double X.toNat i Y.toNat j : Nat) := by
  simp only [fnG]
  rw [(pk_of hX (e := i) (by omega)).1, (pk_of hX (e := i) (by omega)).2, (pk_of hY (e := j) (by omega)).1, (pk_of hY (e := j) (by omega)).2]
theorem fn10_code {X i : Int} (hX : 0 ≤ X) (hi : -1074 ≤ i ∧ i ≤ 971) : fnG 10 (X * 4096 + (i + 2048)) 0 0 = (rootC Ieee.double X.toNat i : Nat) := by
  simp only [fnG]
  rw [(pk_of hX (e := i) (by omega)).1, (pk_of hX (e := i) (by omega)).2]
theorem quo_code {x y m1 p1 m2 p2 N : Int} (X : Word x m1 p1) (Y : Word y m2 p2) :
    iteP ((9218868437227405312 < x % 9223372036854775808 ∨ 9218868437227405312 < y % 9223372036854775808) ∨ (x % 9223372036854775808 = 9218868437227405312 ∧ y % 9223372036854775808 = 9218868437227405312) ∨ (¬ x % 9223372036854775808 = 9218868437227405312 ∧ ¬ y % 9223372036854775808 = 9218868437227405312) ∧ m1 = 0 ∧ m2 = 0) N
      (iteP (x % 9223372036854775808 = 9218868437227405312 ∨ ¬ y % 9223372036854775808 = 9218868437227405312 ∧ m2 = 0) (iteP (¬ iteP (9223372036854775808 ≤ x) 1 0 = iteP (9223372036854775808 ≤ y) 1 0) 18442240474082181120 9218868437227405312)
        (iteP (y % 9223372036854775808 = 9218868437227405312 ∨ m1 = 0) (iteP (¬ iteP (9223372036854775808 ≤ x) 1 0 = iteP (9223372036854775808 ≤ y) 1 0) 9223372036854775808 0)
          (iteP (¬ iteP (9223372036854775808 ≤ x) 1 0 = iteP (9223372036854775808 ≤ y) 1 0) 9223372036854775808 0 + fnG 8 (m1 * 4096 + (p1 + 2048)) (m2 * 4096 + (p2 + 2048)) 0))) =
      iteP (farI .quo .f64 x y = -1) N (farI .quo .f64 x y) := by
  by_cases hn : 9218868437227405312 < x % 9223372036854775808 ∨ 9218868437227405312 < y % 9223372036854775808
  · rw [iteP_pos (.inl hn), iteP_pos (far_nanD X.r Y.r hn)]
  · have nx : mg .f64 x ≤ kI .f64 := by rw [mgD X.r, kI64]; omega
    have ny : mg .f64 y ≤ kI .f64 := by rw [mgD Y.r, kI64]; omega
    have F := far_quo (k := .f64) X.r Y.r nx ny
    rw [mgD X.r, mgD Y.r, kI64] at F
    have hq := xor_q x y
    have zx : x % 9223372036854775808 < 9218868437227405312 → (m1 = 0 ↔ x % 9223372036854775808 = 0) := fun h => by rw [X.m h]; exact mO_null X.r h
    have zy : y % 9223372036854775808 < 9218868437227405312 → (m2 = 0 ↔ y % 9223372036854775808 = 0) := fun h => by rw [Y.m h]; exact mO_null Y.r h
    have sin : 0 ≤ iteP (¬ iteP (9223372036854775808 ≤ x) 1 0 = iteP (9223372036854775808 ≤ y) 1 0) 9223372036854775808 0 ∧ iteP (¬ iteP (9223372036854775808 ≤ x) 1 0 = iteP (9223372036854775808 ≤ y) 1 0) 9223372036854775808 0 ≤ 18446744073709551615 := iteP_in (fun _ => by omega) (fun _ => by omega)
    have e1 : ((9218868437227405312 < x % 9223372036854775808 ∨ 9218868437227405312 < y % 9223372036854775808) ∨ (x % 9223372036854775808 = 9218868437227405312 ∧ y % 9223372036854775808 = 9218868437227405312) ∨ (¬ x % 9223372036854775808 = 9218868437227405312 ∧ ¬ y % 9223372036854775808 = 9218868437227405312) ∧ m1 = 0 ∧ m2 = 0) ↔
        ((x % 9223372036854775808 = 9218868437227405312 ∧ y % 9223372036854775808 = 9218868437227405312) ∨ (x % 9223372036854775808 = 0 ∧ y % 9223372036854775808 = 0)) := by omega
    have e2 : (x % 9223372036854775808 = 9218868437227405312 ∨ ¬ y % 9223372036854775808 = 9218868437227405312 ∧ m2 = 0) ↔ (x % 9223372036854775808 = 9218868437227405312 ∨ y % 9223372036854775808 = 0) := by omega
    rw [F]
    by_cases c : (x % 9223372036854775808 = 9218868437227405312 ∧ y % 9223372036854775808 = 9218868437227405312) ∨ (x % 9223372036854775808 = 0 ∧ y % 9223372036854775808 = 0)
    · rw [if_pos c, iteP_pos (e1.2 c), iteP_pos rfl]
    · rw [if_neg c, iteP_neg (fun h => c (e1.1 h))]
      by_cases d : x % 9223372036854775808 = 9218868437227405312 ∨ y % 9223372036854775808 = 0
      · rw [if_pos d, iteP_pos (e2.2 d), inf_word hq]
        refine canon ?_
        exact (iteP_in (l := 0) (h := 18446744073709551615) (fun _ => by omega) (fun _ => by omega)).1
      · rw [if_neg d, iteP_neg (fun h => d (e2.1 h))]
        by_cases g : y % 9223372036854775808 = 9218868437227405312 ∨ x % 9223372036854775808 = 0
        · rw [if_pos g, iteP_pos (show y % 9223372036854775808 = 9218868437227405312 ∨ m1 = 0 by omega), sgn_word hq]
          have : iteP (¬ iteP (9223372036854775808 ≤ x) 1 0 = iteP (9223372036854775808 ≤ y) 1 0) 9223372036854775808 0 + ((0 : Nat) : Int) = iteP (¬ iteP (9223372036854775808 ≤ x) 1 0 = iteP (9223372036854775808 ≤ y) 1 0) 9223372036854775808 0 := Int.add_zero _
          rw [this]
          exact canon sin.1
        · have px := pO_in X.r (show x % 9223372036854775808 < 9218868437227405312 by omega)
          have py := pO_in Y.r (show y % 9223372036854775808 < 9218868437227405312 by omega)
          rw [if_neg g, iteP_neg (show ¬ (y % 9223372036854775808 = 9218868437227405312 ∨ m1 = 0) by omega), sgn_word hq, X.m (by omega), Y.m (by omega), X.p (by omega), Y.p (by omega), fn8_code (mO_in x).1 (mO_in y).1 px py, Int.toNat_natCast, Int.toNat_natCast]
          refine canon ?_
          have h8 : (0 : Int) ≤ (quoC Ieee.double (mO .f64 x) (pO .f64 x) (mO .f64 y) (pO .f64 y) : Nat) := Int.natCast_nonneg _
          omega
/-! ### the order, the lesser and the greater -/
theorem bit_same (x : Int) (hx : 0 ≤ x ∧ x ≤ 18446744073709551615) : bitI .or .u64 x x = x ∧ bitI .and .u64 x x = x := by
  obtain ⟨n, rfl⟩ := Int.eq_ofNat_of_zero_le hx.1
  have e : (BitVec.ofInt IntKind.u64.bits (n : Int)).toNat = n := by
    show (BitVec.ofInt 64 (n : Int)).toNat = n
    rw [ofInt_nat]; omega
  unfold bitI
  simp only [BitVec.or_self, BitVec.and_self, e, u64_wr]
  omega
theorem ky_iteP (x : Int) : ky .f64 x = iteP (9223372036854775808 ≤ x) (9223372036854775808 - x) x := by
  unfold ky
  rw [kM64]
  by_cases h : 9223372036854775808 ≤ x
  · rw [if_pos h, iteP_pos h]
  · rw [if_neg h, iteP_neg h]
theorem ford_facts {x y : Int} (hx : 0 ≤ x ∧ x ≤ 18446744073709551615) (hy : 0 ≤ y ∧ y ≤ 18446744073709551615) :
    ((9218868437227405312 < x % 9223372036854775808 ∨ 9218868437227405312 < y % 9223372036854775808) → fordI .f64 x y = 3) ∧
    (x % 9223372036854775808 ≤ 9218868437227405312 → y % 9223372036854775808 ≤ 9218868437227405312 → (iteP (9223372036854775808 ≤ x) (9223372036854775808 - x) x = iteP (9223372036854775808 ≤ y) (9223372036854775808 - y) y → fordI .f64 x y = 0) ∧
      (iteP (9223372036854775808 ≤ x) (9223372036854775808 - x) x < iteP (9223372036854775808 ≤ y) (9223372036854775808 - y) y → fordI .f64 x y = 1) ∧ (iteP (9223372036854775808 ≤ y) (9223372036854775808 - y) y < iteP (9223372036854775808 ≤ x) (9223372036854775808 - x) x → fordI .f64 x y = 2)) := by
  have h := ford_eq (k := .f64) (x := x) (y := y) hx hy
  rw [mgD hx, mgD hy, kI64, ky_iteP, ky_iteP] at h
  generalize iteP (9223372036854775808 ≤ x) (9223372036854775808 - x) x = a at h ⊢
  generalize iteP (9223372036854775808 ≤ y) (9223372036854775808 - y) y = b at h ⊢
  refine ⟨fun g => by rw [h, if_pos g], fun g1 g2 => ⟨fun g => ?_, fun g => ?_, fun g => ?_⟩⟩
  · rw [h, if_neg (by omega), if_pos g]
  · rw [h, if_neg (by omega), if_neg (by omega), if_pos g]
  · rw [h, if_neg (by omega), if_neg (by omega), if_neg (by omega)]
theorem ford_self {x : Int} (hx : 0 ≤ x ∧ x ≤ 18446744073709551615) : (fordI .f64 x x = 0 ↔ x % 9223372036854775808 ≤ 9218868437227405312) := by
  have h := ford_facts hx hx
  constructor
  · intro g
    rcases Int.lt_or_le 9218868437227405312 (x % 9223372036854775808) with k | k
    · have := h.1 (.inl k); omega
    · exact k
  · intro g; exact (h.2 g g).1 rfl
theorem pick_facts {x y : Int} (hx : 0 ≤ x ∧ x ≤ 18446744073709551615) (hy : 0 ≤ y ∧ y ≤ 18446744073709551615) (nx : x % 9223372036854775808 ≤ 9218868437227405312) (ny : y % 9223372036854775808 ≤ 9218868437227405312) :
    (iteP (9223372036854775808 ≤ x) (9223372036854775808 - x) x = iteP (9223372036854775808 ≤ y) (9223372036854775808 - y) y → fpickI true x y = bitI .or .u64 x y ∧ fpickI false x y = bitI .and .u64 x y) ∧
      (iteP (9223372036854775808 ≤ x) (9223372036854775808 - x) x < iteP (9223372036854775808 ≤ y) (9223372036854775808 - y) y → fpickI true x y = x ∧ fpickI false x y = y) ∧ (iteP (9223372036854775808 ≤ y) (9223372036854775808 - y) y < iteP (9223372036854775808 ≤ x) (9223372036854775808 - x) x → fpickI true x y = y ∧ fpickI false x y = x) := by
  have h1 := fpick_min (x := x) (y := y) hx hy (by rw [mgD hx]; exact nx) (by rw [mgD hy]; exact ny)
  have h2 := fpick_max (x := x) (y := y) hx hy (by rw [mgD hx]; exact nx) (by rw [mgD hy]; exact ny)
  have s1 := bit_same x hx
  have o1 : bitI .or .u64 0 9223372036854775808 = 9223372036854775808 := by decide
  have o2 : bitI .or .u64 9223372036854775808 0 = 9223372036854775808 := by decide
  have a1 : bitI .and .u64 0 9223372036854775808 = 0 := by decide
  have a2 : bitI .and .u64 9223372036854775808 0 = 0 := by decide
  unfold kz at h1 h2
  rw [kM64] at h1 h2
  by_cases c : 9223372036854775808 ≤ x <;> by_cases d : 9223372036854775808 ≤ y
  · rw [iteP_pos c, iteP_pos d]
    rw [if_pos c, if_pos d] at h1 h2
    refine ⟨fun g => ?_, fun g => ?_, fun g => ?_⟩
    · have e : y = x := by omega
      subst e
      rw [h1, h2, if_neg (by omega), s1.1, s1.2]; exact ⟨rfl, rfl⟩
    · rw [h1, h2, if_pos (by omega), if_neg (by omega)]; exact ⟨rfl, rfl⟩
    · rw [h1, h2, if_neg (by omega), if_pos (by omega)]; exact ⟨rfl, rfl⟩
  · rw [iteP_pos c, iteP_neg d]
    rw [if_pos c, if_neg d] at h1 h2
    refine ⟨fun g => ?_, fun g => ?_, fun g => ?_⟩
    · have e : y = 0 := by omega
      have e' : x = 9223372036854775808 := by omega
      subst e e'
      rw [h1, h2, o2, a2]; exact ⟨rfl, rfl⟩
    · rw [h1, h2, if_pos (by omega), if_neg (by omega)]; exact ⟨rfl, rfl⟩
    · omega
  · rw [iteP_neg c, iteP_pos d]
    rw [if_neg c, if_pos d] at h1 h2
    refine ⟨fun g => ?_, fun g => ?_, fun g => ?_⟩
    · have e : x = 0 := by omega
      have e' : y = 9223372036854775808 := by omega
      subst e e'
      rw [h1, h2, o1, a1]; exact ⟨rfl, rfl⟩
    · omega
    · rw [h1, h2, if_neg (by omega), if_pos (by omega)]; exact ⟨rfl, rfl⟩
  · rw [iteP_neg c, iteP_neg d]
    rw [if_neg c, if_neg d] at h1 h2
    refine ⟨fun g => ?_, fun g => ?_, fun g => ?_⟩
    · have e : y = x := by omega
      subst e
      rw [h1, h2, if_neg (by omega), s1.1, s1.2]; exact ⟨rfl, rfl⟩
    · rw [h1, h2, if_pos (by omega), if_neg (by omega)]; exact ⟨rfl, rfl⟩
    · rw [h1, h2, if_neg (by omega), if_pos (by omega)]; exact ⟨rfl, rfl⟩
theorem pick_in {x y : Int} (b : Bool) (hx : 0 ≤ x ∧ x ≤ 18446744073709551615) (hy : 0 ≤ y ∧ y ≤ 18446744073709551615) (nx : x % 9223372036854775808 ≤ 9218868437227405312) (ny : y % 9223372036854775808 ≤ 9218868437227405312) : 0 ≤ fpickI b x y ∧ fpickI b x y ≤ 18446744073709551615 := by
  have h1 := fpick_min (x := x) (y := y) hx hy (by rw [mgD hx]; exact nx) (by rw [mgD hy]; exact ny)
  have h2 := fpick_max (x := x) (y := y) hx hy (by rw [mgD hx]; exact nx) (by rw [mgD hy]; exact ny)
  cases b
  · rw [h2]; split <;> assumption
  · rw [h1]; split <;> assumption
theorem root_code {x m p N : Int} (X : Word x m p) :
    iteP (9218868437227405312 < x % 9223372036854775808 ∨ 9223372036854775808 ≤ x ∧ (x % 9223372036854775808 = 9218868437227405312 ∨ ¬ m = 0)) N
      (iteP (x % 9223372036854775808 = 9218868437227405312) 9218868437227405312 (iteP (m = 0) (iteP (9223372036854775808 ≤ x) 9223372036854775808 0) (fnG 10 (m * 4096 + (p + 2048)) 0 0))) =
      iteP (fsqrtI x = -1) N (fsqrtI x) := by
  by_cases hn : 9218868437227405312 < x % 9223372036854775808
  · rw [iteP_pos (.inl hn), iteP_pos (fsqrt_nan (x := x) X.r (by rw [mgD X.r]; exact hn))]
  · have F := far_root (x := x) X.r (by rw [mgD X.r, kI64]; omega)
    rw [mgD X.r, kI64, kM64] at F
    have zx : x % 9223372036854775808 < 9218868437227405312 → (m = 0 ↔ x % 9223372036854775808 = 0) := fun h => by rw [X.m h]; exact mO_null X.r h
    rw [F]
    by_cases c : 9223372036854775808 ≤ x ∧ x % 9223372036854775808 ≠ 0
    · rw [if_pos c, iteP_pos rfl]
      exact iteP_casel (fun _ => rfl) (fun h => by omega)
    · rw [if_neg c, iteP_neg (show ¬ (9218868437227405312 < x % 9223372036854775808 ∨ 9223372036854775808 ≤ x ∧ (x % 9223372036854775808 = 9218868437227405312 ∨ ¬ m = 0)) by omega)]
      by_cases d : x % 9223372036854775808 = 9218868437227405312
      · rw [if_pos d, iteP_pos d]; exact canon (by omega)
      · rw [if_neg d, iteP_neg d]
        by_cases z : x % 9223372036854775808 = 0
        · rw [if_pos z, iteP_pos ((zx (by omega)).2 z), sgn_word (sOD x)]
          have e : iteP (9223372036854775808 ≤ x) 9223372036854775808 0 + ((0 : Nat) : Int) = iteP (9223372036854775808 ≤ x) 9223372036854775808 0 := Int.add_zero _
          rw [e]
          exact canon (iteP_in (l := 0) (h := 18446744073709551615) (fun _ => by omega) (fun _ => by omega)).1
        · have px := pO_in X.r (show x % 9223372036854775808 < 9218868437227405312 by omega)
          rw [if_neg z, iteP_neg (fun h => z ((zx (by omega)).1 h)), X.m (by omega), X.p (by omega), fn10_code (mO_in x).1 px, Int.toNat_natCast]
          exact canon (Int.natCast_nonneg _)
end Go.Sx.Ref

/- What the reference's operations of two singles come to. No condition. -/
namespace Go.Sx.Ref
set_option linter.unusedVariables false
open Go Go.Sx Go.Sx.Flt Ieee
theorem wID3 (s : Bool) (r : Nat) : wI .f32 s r = (if s then 2147483648 else 0) + r := wI_eq _ _ _
theorem iR3 : FloatKind.f32.format.infRung = 2139095040 := by decide
theorem sOD3 (x : Int) : (sO .f32 x = true ↔ 2147483648 ≤ x) := by unfold sO; rw [decide_eq_true_iff]; exact Iff.rfl
structure Word3 (x m p : Int) : Prop where
  r : 0 ≤ x ∧ x ≤ 4294967295
  m : x % 2147483648 < 2139095040 → m = (mO .f32 x : Int)
  p : x % 2147483648 < 2139095040 → p = pO .f32 x
theorem word_of3 {x m p : Int} (hx : 0 ≤ x ∧ x ≤ 4294967295) (a : m = iteP (x % 2147483648 < 8388608) (x % 2147483648) (iteP (x % 2147483648 < 2139095040) (8388608 + x % 2147483648 % 8388608) (x % 2147483648 - 2139095040)))
    (b : p = iteP (x % 2147483648 < 8388608) (-149) (iteP (x % 2147483648 < 2139095040) (-150 + x % 2147483648 / 8388608) 0)) : Word3 x m p :=
  ⟨hx, fun h => a.trans (magD3 hx h), fun h => b.trans (plcD3 hx h)⟩
theorem far_nanD3 {op : BinOp} {x y : Int} (hx : 0 ≤ x ∧ x ≤ 4294967295) (hy : 0 ≤ y ∧ y ≤ 4294967295) (h : 2139095040 < x % 2147483648 ∨ 2139095040 < y % 2147483648) : farI op .f32 x y = -1 :=
  far_nan (k := .f32) hx hy (by rw [mgD3 hx, mgD3 hy]; exact h)
theorem inf_word3 {s : Bool} {q : Prop} (h : s = true ↔ q) : wI .f32 s FloatKind.f32.format.infRung = iteP q 4286578688 2139095040 := by
  rw [wID3, iR3]
  cases s
  · rw [iteP_neg (fun g => by have := h.2 g; contradiction)]; rfl
  · rw [iteP_pos (h.1 rfl)]; rfl
theorem sgn_word3 {s : Bool} {q : Prop} (h : s = true ↔ q) (r : Nat) : wI .f32 s r = iteP q 2147483648 0 + r := by
  rw [wID3]
  cases s
  · rw [iteP_neg (fun g => by have := h.2 g; contradiction)]; rfl
  · rw [iteP_pos (h.1 rfl)]; rfl
theorem add_code3 {x y m1 p1 m2 p2 c1 c2 N : Int} {q : Prop} (b : Bool) (X : Word3 x m1 p1) (Y : Word3 y m2 p2) (h1 : c1 = iteP (2147483648 ≤ x) 1 0) (h2 : c2 = iteP q 1 0) (hq : (sO .f32 y ^^ b) = true ↔ q) :
    iteP ((2139095040 < x % 2147483648 ∨ 2139095040 < y % 2147483648) ∨ (x % 2147483648 = 2139095040 ∧ y % 2147483648 = 2139095040) ∧ ¬ c1 = c2) N
      (iteP (x % 2147483648 = 2139095040) (iteP (2147483648 ≤ x) 4286578688 2139095040)
        (iteP (y % 2147483648 = 2139095040) (iteP q 4286578688 2139095040) (fnG 7 (m1 * 4096 + (p1 + 2048)) (m2 * 4096 + (p2 + 2048)) (c1 * 2 + c2)))) =
      iteP (farI (if b then .sub else .add) .f32 x y = -1) N (farI (if b then .sub else .add) .f32 x y) := by
  by_cases hn : 2139095040 < x % 2147483648 ∨ 2139095040 < y % 2147483648
  · rw [iteP_pos (.inl hn), iteP_pos (far_nanD3 X.r Y.r hn)]
  · have nx : mg .f32 x ≤ kI .f32 := by rw [mgD3 X.r, kI32]; omega
    have ny : mg .f32 y ≤ kI .f32 := by rw [mgD3 Y.r, kI32]; omega
    have F := far_sum (k := .f32) b X.r Y.r nx ny
    rw [mgD3 X.r, mgD3 Y.r, kI32] at F
    have s1 := sOD3 x
    have e1 : (c1 == 1) = sO .f32 x := by
      rw [h1]
      by_cases h : 2147483648 ≤ x
      · rw [iteP_pos h, s1.2 h]; rfl
      · rw [iteP_neg h, Bool.eq_false_iff.2 (fun g => h (s1.1 g))]; rfl
    have e2 : (c2 == 1) = (sO .f32 y ^^ b) := by
      rw [h2]
      by_cases h : q
      · rw [iteP_pos h, hq.2 h]; rfl
      · rw [iteP_neg h, Bool.eq_false_iff.2 (fun g => h (hq.1 g))]; rfl
    have c01 : (c1 = 0 ∨ c1 = 1) ∧ (c2 = 0 ∨ c2 = 1) := by
      rw [h1, h2]
      unfold iteP
      constructor <;> split <;> simp
    have ec : (¬ c1 = c2) ↔ sO .f32 x ≠ (sO .f32 y ^^ b) := by
      rw [← e1, ← e2]
      rcases c01.1 with h | h <;> rcases c01.2 with g | g <;> rw [h, g] <;> decide
    rw [F]
    by_cases ix : x % 2147483648 = 2139095040
    · rw [if_pos ix]
      by_cases iy : y % 2147483648 = 2139095040 ∧ sO .f32 x ≠ (sO .f32 y ^^ b)
      · rw [if_pos iy, iteP_pos (.inr ⟨⟨ix, iy.1⟩, ec.2 iy.2⟩), iteP_pos rfl]
      · rw [if_neg iy, iteP_neg (fun h => h.elim hn fun g => iy ⟨g.1.2, ec.1 g.2⟩), iteP_pos ix, inf_word3 s1]
        refine canon ?_
        exact (iteP_in (l := 0) (h := 4294967295) (fun _ => by omega) (fun _ => by omega)).1
    · rw [if_neg ix, iteP_neg (fun h => h.elim hn fun g => ix g.1.1), iteP_neg ix]
      by_cases iy : y % 2147483648 = 2139095040
      · rw [if_pos iy, iteP_pos iy, inf_word3 hq]
        refine canon ?_
        exact (iteP_in (l := 0) (h := 4294967295) (fun _ => by omega) (fun _ => by omega)).1
      · rw [if_neg iy, iteP_neg iy]
        have px := pO_in3 X.r (show x % 2147483648 < 2139095040 by omega)
        have py := pO_in3 Y.r (show y % 2147483648 < 2139095040 by omega)
        rw [X.m (by omega), X.p (by omega), Y.m (by omega), Y.p (by omega), fn63 c01.1 c01.2 (mO_in3 x).1 (mO_in3 y).1 (by omega) (by omega), e1, e2, Int.toNat_natCast, Int.toNat_natCast]
        exact canon (sumC_in3 _ _ _ _ _ _).1
theorem xor_q3 (x y : Int) : ((sO .f32 x ^^ sO .f32 y) = true ↔ ¬ iteP (2147483648 ≤ x) 1 0 = iteP (2147483648 ≤ y) 1 0) := by
  have s1 := sOD3 x
  have s2 := sOD3 y
  by_cases h : 2147483648 ≤ x <;> by_cases g : 2147483648 ≤ y <;> simp [h, g, iteP_pos, iteP_neg, s1.2, s2.2, Bool.eq_false_iff.2, s1, s2]
theorem mul_code3 {x y m1 p1 m2 p2 N : Int} (X : Word3 x m1 p1) (Y : Word3 y m2 p2) :
    iteP ((2139095040 < x % 2147483648 ∨ 2139095040 < y % 2147483648) ∨ (x % 2147483648 = 2139095040 ∧ ¬ y % 2147483648 = 2139095040 ∧ m2 = 0) ∨ (y % 2147483648 = 2139095040 ∧ ¬ x % 2147483648 = 2139095040 ∧ m1 = 0)) N
      (iteP (x % 2147483648 = 2139095040 ∨ y % 2147483648 = 2139095040) (iteP (¬ iteP (2147483648 ≤ x) 1 0 = iteP (2147483648 ≤ y) 1 0) 4286578688 2139095040)
        (iteP (¬ iteP (2147483648 ≤ x) 1 0 = iteP (2147483648 ≤ y) 1 0) 2147483648 0 + fnG 5 (m1 * m2) (p1 + p2) 0)) =
      iteP (farI .mul .f32 x y = -1) N (farI .mul .f32 x y) := by
  by_cases hn : 2139095040 < x % 2147483648 ∨ 2139095040 < y % 2147483648
  · rw [iteP_pos (.inl hn), iteP_pos (far_nanD3 X.r Y.r hn)]
  · have nx : mg .f32 x ≤ kI .f32 := by rw [mgD3 X.r, kI32]; omega
    have ny : mg .f32 y ≤ kI .f32 := by rw [mgD3 Y.r, kI32]; omega
    have F := far_mul (k := .f32) X.r Y.r nx ny
    rw [mgD3 X.r, mgD3 Y.r, kI32] at F
    have hq := xor_q3 x y
    have zx : x % 2147483648 < 2139095040 → (m1 = 0 ↔ x % 2147483648 = 0) := fun h => by rw [X.m h]; exact mO_null3 X.r h
    have zy : y % 2147483648 < 2139095040 → (m2 = 0 ↔ y % 2147483648 = 0) := fun h => by rw [Y.m h]; exact mO_null3 Y.r h
    have ec : ((2139095040 < x % 2147483648 ∨ 2139095040 < y % 2147483648) ∨ (x % 2147483648 = 2139095040 ∧ ¬ y % 2147483648 = 2139095040 ∧ m2 = 0) ∨ (y % 2147483648 = 2139095040 ∧ ¬ x % 2147483648 = 2139095040 ∧ m1 = 0)) ↔
        ((x % 2147483648 = 2139095040 ∧ y % 2147483648 = 0) ∨ (y % 2147483648 = 2139095040 ∧ x % 2147483648 = 0)) := by omega
    rw [F]
    by_cases c : (x % 2147483648 = 2139095040 ∧ y % 2147483648 = 0) ∨ (y % 2147483648 = 2139095040 ∧ x % 2147483648 = 0)
    · rw [if_pos c, iteP_pos (ec.2 c), iteP_pos rfl]
    · rw [if_neg c, iteP_neg (fun h => c (ec.1 h))]
      by_cases d : x % 2147483648 = 2139095040 ∨ y % 2147483648 = 2139095040
      · rw [if_pos d, iteP_pos d, inf_word3 hq]
        refine canon ?_
        exact (iteP_in (l := 0) (h := 4294967295) (fun _ => by omega) (fun _ => by omega)).1
      · rw [if_neg d, iteP_neg d, sgn_word3 hq, X.m (by omega), Y.m (by omega), X.p (by omega), Y.p (by omega), ← Int.natCast_mul, fn4_word3]
        refine canon ?_
        have := iteP_in (p := ¬ iteP (2147483648 ≤ x) 1 0 = iteP (2147483648 ≤ y) 1 0) (a := 2147483648) (b := 0) (l := 0) (h := 4294967295) (fun _ => by omega) (fun _ => by omega)
        omega
theorem fn8_code3 {X i Y j : Int} (hX : 0 ≤ X) (hY : 0 ≤ Y) (hi : -149 ≤ i ∧ i ≤ 104) (hj : -149 ≤ j ∧ j ≤ 104) : fnG 9 (X * 4096 + (i + 2048)) (Y * 4096 + (j + 2048)) 0 = (quoC Ieee.single X.toNat i Y.toNat j : Nat) := by
  simp only [fnG]
  rw [(pk_of hX (e := i) (by omega)).1, (pk_of hX (e := i) (by omega)).2, (pk_of hY (e := j) (by omega)).1, (pk_of hY (e := j) (by omega)).2]
theorem fn10_code3 {X i : Int} (hX : 0 ≤ X) (hi : -149 ≤ i ∧ i ≤ 104) : fnG 11 (X * 4096 + (i + 2048)) 0 0 = (rootC Ieee.single X.toNat i : Nat) := by
  simp only [fnG]
  rw [(pk_of hX (e := i) (by omega)).1, (pk_of hX (e := i) (by omega)).2]
theorem quo_code3 {x y m1 p1 m2 p2 N : Int} (X : Word3 x m1 p1) (Y : Word3 y m2 p2) :
    iteP ((2139095040 < x % 2147483648 ∨ 2139095040 < y % 2147483648) ∨ (x % 2147483648 = 2139095040 ∧ y % 2147483648 = 2139095040) ∨ (¬ x % 2147483648 = 2139095040 ∧ ¬ y % 2147483648 = 2139095040) ∧ m1 = 0 ∧ m2 = 0) N
      (iteP (x % 2147483648 = 2139095040 ∨ ¬ y % 2147483648 = 2139095040 ∧ m2 = 0) (iteP (¬ iteP (2147483648 ≤ x) 1 0 = iteP (2147483648 ≤ y) 1 0) 4286578688 2139095040)
        (iteP (y % 2147483648 = 2139095040 ∨ m1 = 0) (iteP (¬ iteP (2147483648 ≤ x) 1 0 = iteP (2147483648 ≤ y) 1 0) 2147483648 0)
          (iteP (¬ iteP (2147483648 ≤ x) 1 0 = iteP (2147483648 ≤ y) 1 0) 2147483648 0 + fnG 9 (m1 * 4096 + (p1 + 2048)) (m2 * 4096 + (p2 + 2048)) 0))) =
      iteP (farI .quo .f32 x y = -1) N (farI .quo .f32 x y) := by
  by_cases hn : 2139095040 < x % 2147483648 ∨ 2139095040 < y % 2147483648
  · rw [iteP_pos (.inl hn), iteP_pos (far_nanD3 X.r Y.r hn)]
  · have nx : mg .f32 x ≤ kI .f32 := by rw [mgD3 X.r, kI32]; omega
    have ny : mg .f32 y ≤ kI .f32 := by rw [mgD3 Y.r, kI32]; omega
    have F := far_quo (k := .f32) X.r Y.r nx ny
    rw [mgD3 X.r, mgD3 Y.r, kI32] at F
    have hq := xor_q3 x y
    have zx : x % 2147483648 < 2139095040 → (m1 = 0 ↔ x % 2147483648 = 0) := fun h => by rw [X.m h]; exact mO_null3 X.r h
    have zy : y % 2147483648 < 2139095040 → (m2 = 0 ↔ y % 2147483648 = 0) := fun h => by rw [Y.m h]; exact mO_null3 Y.r h
    have sin : 0 ≤ iteP (¬ iteP (2147483648 ≤ x) 1 0 = iteP (2147483648 ≤ y) 1 0) 2147483648 0 ∧ iteP (¬ iteP (2147483648 ≤ x) 1 0 = iteP (2147483648 ≤ y) 1 0) 2147483648 0 ≤ 4294967295 := iteP_in (fun _ => by omega) (fun _ => by omega)
    have e1 : ((2139095040 < x % 2147483648 ∨ 2139095040 < y % 2147483648) ∨ (x % 2147483648 = 2139095040 ∧ y % 2147483648 = 2139095040) ∨ (¬ x % 2147483648 = 2139095040 ∧ ¬ y % 2147483648 = 2139095040) ∧ m1 = 0 ∧ m2 = 0) ↔
        ((x % 2147483648 = 2139095040 ∧ y % 2147483648 = 2139095040) ∨ (x % 2147483648 = 0 ∧ y % 2147483648 = 0)) := by omega
    have e2 : (x % 2147483648 = 2139095040 ∨ ¬ y % 2147483648 = 2139095040 ∧ m2 = 0) ↔ (x % 2147483648 = 2139095040 ∨ y % 2147483648 = 0) := by omega
    rw [F]
    by_cases c : (x % 2147483648 = 2139095040 ∧ y % 2147483648 = 2139095040) ∨ (x % 2147483648 = 0 ∧ y % 2147483648 = 0)
    · rw [if_pos c, iteP_pos (e1.2 c), iteP_pos rfl]
    · rw [if_neg c, iteP_neg (fun h => c (e1.1 h))]
      by_cases d : x % 2147483648 = 2139095040 ∨ y % 2147483648 = 0
      · rw [if_pos d, iteP_pos (e2.2 d), inf_word3 hq]
        refine canon ?_
        exact (iteP_in (l := 0) (h := 4294967295) (fun _ => by omega) (fun _ => by omega)).1
      · rw [if_neg d, iteP_neg (fun h => d (e2.1 h))]
        by_cases g : y % 2147483648 = 2139095040 ∨ x % 2147483648 = 0
        · rw [if_pos g, iteP_pos (show y % 2147483648 = 2139095040 ∨ m1 = 0 by omega), sgn_word3 hq]
          have : iteP (¬ iteP (2147483648 ≤ x) 1 0 = iteP (2147483648 ≤ y) 1 0) 2147483648 0 + ((0 : Nat) : Int) = iteP (¬ iteP (2147483648 ≤ x) 1 0 = iteP (2147483648 ≤ y) 1 0) 2147483648 0 := Int.add_zero _
          rw [this]
          exact canon sin.1
        · have px := pO_in3 X.r (show x % 2147483648 < 2139095040 by omega)
          have py := pO_in3 Y.r (show y % 2147483648 < 2139095040 by omega)
          rw [if_neg g, iteP_neg (show ¬ (y % 2147483648 = 2139095040 ∨ m1 = 0) by omega), sgn_word3 hq, X.m (by omega), Y.m (by omega), X.p (by omega), Y.p (by omega), fn8_code3 (mO_in3 x).1 (mO_in3 y).1 px py, Int.toNat_natCast, Int.toNat_natCast]
          refine canon ?_
          have h8 : (0 : Int) ≤ (quoC Ieee.single (mO .f32 x) (pO .f32 x) (mO .f32 y) (pO .f32 y) : Nat) := Int.natCast_nonneg _
          omega
/-! ### the order, the lesser and the greater -/
theorem bit_same3 (x : Int) (hx : 0 ≤ x ∧ x ≤ 4294967295) : bitI .or .u64 x x = x ∧ bitI .and .u64 x x = x := by
  obtain ⟨n, rfl⟩ := Int.eq_ofNat_of_zero_le hx.1
  have e : (BitVec.ofInt IntKind.u64.bits (n : Int)).toNat = n := by
    show (BitVec.ofInt 64 (n : Int)).toNat = n
    rw [ofInt_nat]; omega
  unfold bitI
  simp only [BitVec.or_self, BitVec.and_self, e, u64_wr]
  omega
theorem ky_iteP3 (x : Int) : ky .f32 x = iteP (2147483648 ≤ x) (2147483648 - x) x := by
  unfold ky
  rw [kM32]
  by_cases h : 2147483648 ≤ x
  · rw [if_pos h, iteP_pos h]
  · rw [if_neg h, iteP_neg h]
theorem ford_facts3 {x y : Int} (hx : 0 ≤ x ∧ x ≤ 4294967295) (hy : 0 ≤ y ∧ y ≤ 4294967295) :
    ((2139095040 < x % 2147483648 ∨ 2139095040 < y % 2147483648) → fordI .f32 x y = 3) ∧
    (x % 2147483648 ≤ 2139095040 → y % 2147483648 ≤ 2139095040 → (iteP (2147483648 ≤ x) (2147483648 - x) x = iteP (2147483648 ≤ y) (2147483648 - y) y → fordI .f32 x y = 0) ∧
      (iteP (2147483648 ≤ x) (2147483648 - x) x < iteP (2147483648 ≤ y) (2147483648 - y) y → fordI .f32 x y = 1) ∧ (iteP (2147483648 ≤ y) (2147483648 - y) y < iteP (2147483648 ≤ x) (2147483648 - x) x → fordI .f32 x y = 2)) := by
  have h := ford_eq (k := .f32) (x := x) (y := y) hx hy
  rw [mgD3 hx, mgD3 hy, kI32, ky_iteP3, ky_iteP3] at h
  generalize iteP (2147483648 ≤ x) (2147483648 - x) x = a at h ⊢
  generalize iteP (2147483648 ≤ y) (2147483648 - y) y = b at h ⊢
  refine ⟨fun g => by rw [h, if_pos g], fun g1 g2 => ⟨fun g => ?_, fun g => ?_, fun g => ?_⟩⟩
  · rw [h, if_neg (by omega), if_pos g]
  · rw [h, if_neg (by omega), if_neg (by omega), if_pos g]
  · rw [h, if_neg (by omega), if_neg (by omega), if_neg (by omega)]
theorem ford_self3 {x : Int} (hx : 0 ≤ x ∧ x ≤ 4294967295) : (fordI .f32 x x = 0 ↔ x % 2147483648 ≤ 2139095040) := by
  have h := ford_facts3 hx hx
  constructor
  · intro g
    rcases Int.lt_or_le 2139095040 (x % 2147483648) with k | k
    · have := h.1 (.inl k); omega
    · exact k
  · intro g; exact (h.2 g g).1 rfl
end Go.Sx.Ref

/- Roots of floats of 32 bits, through those of 64 bits. No condition. -/
namespace Go.Sx
open Go Ieee
def c1074 : Nat := 1074
/-- a positive number's root, in the numbers themselves -/
theorem sqrt_exact {x : Int} (h0 : 0 < x) (hi : x < 9218868437227405312) : ∃ R : Nat, fsqrtI x = R ∧ 1 ≤ R ∧ R ≤ 9110782046170513408 ∧
    (∀ q, q < R → val Ieee.double q * val Ieee.double q ≤ val Ieee.double x.toNat * 2 ^ c1074) ∧ (∀ q, R < q → q ≤ 9218868437227405312 → val Ieee.double x.toNat * 2 ^ c1074 ≤ val Ieee.double q * val Ieee.double q) := by
  obtain ⟨ρ, rfl⟩ := Int.eq_ofNat_of_zero_le (Int.le_of_lt h0)
  simp only [Int.toNat_natCast]
  have hm : ρ % Ieee.double.signWeight = ρ := by rw [dSW]; omega
  have hs : (ρ / Ieee.double.signWeight % 2 == 1) = false := by
    have : ρ / Ieee.double.signWeight = 0 := by rw [dSW]; omega
    rw [this]; rfl
  have hr : Ieee.double.read ρ = .number false (magOf Ieee.double ρ) (placeOf Ieee.double ρ) := by
    have := read_fin Ieee.double (w := ρ) (by rw [hm, dIR]; omega)
    rw [hm, hs] at this; exact this
  have hmp : 0 < magOf Ieee.double ρ := by
    unfold magOf; rw [dBI]; split <;> omega
  have hml := mag_lt Ieee.double ρ
  have hfb : Ieee.double.fractionBits = 52 := rfl
  have hpl := place_ge Ieee.double ρ
  rw [dLP] at hpl
  have hpu : placeOf Ieee.double ρ ≤ 971 := by unfold placeOf; rw [dLP, dBI]; split <;> omega
  obtain ⟨n, w, e, hroot, r1, r2, ⟨k0, hn, hk0, hk1, hk2⟩, hw⟩ := root_rung Ieee.double hmp (by rw [hfb]; rw [dBI] at hml; omega) (placeOf Ieee.double ρ)
  rw [hfb] at hk1 hk2 hw hroot
  have hv : val Ieee.double ρ = magOf Ieee.double ρ * 2 ^ (placeOf Ieee.double ρ + 1074).toNat := by
    unfold val; rw [dLP]; congr 2
  generalize val Ieee.double ρ = v at *
  generalize magOf Ieee.double ρ = m at *
  generalize placeOf Ieee.double ρ = i at *
  obtain ⟨st, hst⟩ : ∃ st, (w * w != n).toNat = st := ⟨_, rfl⟩
  have hst1 : st ≤ 1 := by rw [← hst]; exact Bool.toNat_le _
  rw [hst] at hroot
  obtain ⟨k, hk⟩ : ∃ k : Nat, (k : Int) = e - 1 + 1074 := ⟨(e - 1 + 1074).toNat, by omega⟩
  obtain ⟨c1532, hcc⟩ : ∃ c : Nat, c = 1532 := ⟨_, rfl⟩
  obtain ⟨c2022, hc2⟩ : ∃ c : Nat, c = 2022 := ⟨_, rfl⟩
  have hkk : k ≤ c1532 := by omega
  have hR : rungOf Ieee.double ((2 * w + st) * 2 ^ k) Ieee.double.leastPlace = rungOf Ieee.double (2 * w + st) (e - 1) := by
    have := rung_scale Ieee.double (2 * w + st) k (e - 1)
    rw [show e - 1 - (k : Int) = -1074 by omega] at this
    rw [dLP]; exact this
  have hwu : 2 * w + st < 2 ^ 83 := by
    have h1 : n < 2 ^ 162 := by
      rw [hn]
      rw [dBI] at hml
      have h2 : m * 2 ^ k0 ≤ m * 2 ^ 109 := Nat.mul_le_mul_left _ (Nat.pow_le_pow_right (by decide) hk2)
      have h3 : m * 2 ^ 109 < 2 ^ 53 * 2 ^ 109 := Nat.mul_lt_mul_of_pos_right (by omega) (by decide)
      rw [← Nat.pow_add] at h3
      omega
    have h4 : w < 2 ^ 81 := by
      rcases Nat.lt_or_ge w (2 ^ 81) with h5 | h5
      · exact h5
      · have := Nat.mul_le_mul h5 h5
        rw [← Nat.pow_add] at this
        omega
    omega
  have hSu : (2 * w + st) * 2 ^ k ≤ val Ieee.double ((c2022 + 1) * Ieee.double.binade) := by
    rw [great_rung]
    have h1 : (2 * w + st) * 2 ^ k ≤ 2 ^ 83 * 2 ^ c1532 := Nat.mul_le_mul (Nat.le_of_lt hwu) (Nat.pow_le_pow_right (by decide) hkk)
    have h2 : (2 : Nat) ^ 83 * 2 ^ c1532 ≤ 2 ^ 52 * 2 ^ c2022 := by
      rw [← Nat.pow_add, ← Nat.pow_add]; exact Nat.pow_le_pow_right (by decide) (by omega)
    exact Nat.le_trans h1 h2
  have hgr : (c2022 + 1) * Ieee.double.binade = 9110782046170513408 := by rw [hc2, dBI]
  have hRu := rung_mono Ieee.double Ieee.double.leastPlace hSu
  have hq0 := rung_val Ieee.double (r := (c2022 + 1) * Ieee.double.binade) (by rw [hgr, dIR]; decide) 0
  rw [Nat.pow_zero, Nat.mul_one] at hq0
  rw [show Ieee.double.leastPlace - ((0 : Nat) : Int) = Ieee.double.leastPlace by omega] at hq0
  rw [hq0, hR, hgr] at hRu
  have hRl : 1 ≤ rungOf Ieee.double (2 * w + st) (e - 1) := by
    rw [← hR]
    have hv1 : val Ieee.double 1 = 1 := by rw [val_eq, dBI, if_pos (by decide)]
    have h1 : val Ieee.double 1 * 2 ^ 0 ≤ (2 * w + st) * 2 ^ k := by
      rw [hv1]
      have : 0 < 2 ^ k := Nat.two_pow_pos k
      have := Nat.mul_pos (show 0 < 2 * w + st by omega) this
      omega
    have := le_rung Ieee.double (r := 1) (by rw [dIR]; decide) h1
    rwa [show Ieee.double.leastPlace - ((0 : Nat) : Int) = Ieee.double.leastPlace by omega] at this
  obtain ⟨lo, hiR⟩ := near_root Ieee.double hst1 (by rw [hfb]; exact hw) hR (by rw [dIR]; omega)
  have hx : v * 2 ^ c1074 = 4 * n * (2 ^ k * 2 ^ k) := by
    have hc3 : c1074 = 1074 := by unfold c1074; rfl
    rw [hv, hn, Nat.mul_assoc, ← Nat.pow_add, show 4 * (m * 2 ^ k0) = m * 2 ^ (k0 + 2) by rw [Nat.pow_add, show (2 : Nat) ^ 2 = 4 by decide, Nat.mul_comm 4, Nat.mul_assoc], Nat.mul_assoc, ← Nat.pow_add, ← Nat.pow_add]
    congr 2; omega
  refine ⟨rungOf Ieee.double (2 * w + st) (e - 1), ?_, hRl, hRu, fun q hq => ?_, fun q hq hqi => ?_⟩
  · have e1 := sqrt_read hr (by rw [hfb]; exact hroot)
    unfold fsqrtI
    rw [Int.toNat_natCast]
    show (match Ieee.double.sqrt ρ with | some r => (r : Int) | none => -1) = _
    rw [e1]
  · rw [hx]
    have h1 := lo q hq
    have h2 := Nat.mul_le_mul h1 h1
    refine Nat.le_trans h2 ?_
    rw [Nat.mul_mul_mul_comm]
    refine Nat.mul_le_mul_right _ ?_
    rw [Nat.mul_mul_mul_comm]
    exact Nat.mul_le_mul_left _ r1
  · rw [hx]
    have h1 := hiR q hq (by rw [dIR]; exact hqi)
    have h2 := Nat.mul_le_mul h1 h1
    refine Nat.le_trans ?_ h2
    rw [Nat.mul_mul_mul_comm (2 * w + 2 * st)]
    refine Nat.mul_le_mul_right _ ?_
    have h3 : 2 * w + 2 * st = 2 * (w + st) := by omega
    rw [h3, Nat.mul_mul_mul_comm]
    refine Nat.mul_le_mul_left _ ?_
    by_cases hz : w * w = n
    · have : st = 0 := by rw [← hst, hz]; simp
      rw [this, Nat.add_zero]; omega
    · have : st = 1 := by
        rw [← hst]
        have : (w * w != n) = true := by simpa using hz
        rw [this]; rfl
      rw [this]; exact Nat.le_of_lt r2
theorem great_rung32 (j : Nat) : val Ieee.single ((j + 1) * Ieee.single.binade) = Ieee.single.binade * 2 ^ j := by
  have hb := binade_pos Ieee.single
  have h1 : ¬ (j + 1) * Ieee.single.binade < Ieee.single.binade := by
    have := Nat.le_mul_of_pos_left Ieee.single.binade (show 0 < j + 1 by omega)
    omega
  rw [val_eq, if_neg h1, Nat.mul_mod_left, Nat.mul_div_cancel _ hb, Nat.add_zero]
  rfl
/-- a rung of 64 bits, rounded to one of 32 -/
def dn (R : Nat) : Nat := rungOf Ieee.single (magOf Ieee.double R) (placeOf Ieee.double R)
theorem dn_val (R : Nat) : dn R = rungOf Ieee.single (val Ieee.double R) (-1074) := by
  have hg := place_ge Ieee.double R
  rw [dLP] at hg
  have h := rung_scale Ieee.single (magOf Ieee.double R) (placeOf Ieee.double R + 1074).toNat (placeOf Ieee.double R)
  unfold dn
  rw [← h]
  unfold val
  rw [dLP, show placeOf Ieee.double R - -1074 = placeOf Ieee.double R + 1074 by omega]
  congr 1; omega
theorem dn_mono {a b : Nat} (h : a ≤ b) : dn a ≤ dn b := by
  rw [dn_val, dn_val]
  refine rung_mono _ _ ?_
  rcases Nat.lt_or_eq_of_le h with h | h
  · exact Nat.le_of_lt (val_lt _ h)
  · rw [h]; exact Nat.le_refl _
theorem dn_up {r : Nat} (h : r < 2139095040) : dn (upR r) = r := downR h
/-- the numbers of a root of 32 bits: q's square on either side -/
theorem root32 {ρ : Nat} (h0 : 0 < ρ) (hi : ρ < 2139095040) : ∃ R : Nat, fsqrtI ((upR ρ : Nat) : Int) = R ∧ R ≤ 9110782046170513408 ∧ 1 ≤ dn R ∧ dn R ≤ 1602224128 ∧
    (∀ q, q < dn R → rungOf Ieee.single (val Ieee.single q * val Ieee.single q) (-298) ≤ ρ) ∧ (∀ q, dn R < q → q < 2139095040 → ρ ≤ rungOf Ieee.single (val Ieee.single q * val Ieee.single q) (-298)) := by
  obtain ⟨hv, hul⟩ := upR_val hi
  have hpos : 0 < val Ieee.single ρ := by
    have h1 : val Ieee.single 0 = 0 := by rw [val_eq, sBI]; rfl
    have := val_lt Ieee.single h0; omega
  have hup : 0 < upR ρ := by
    rcases Nat.eq_zero_or_pos (upR ρ) with h | h
    · rw [h] at hv
      have h1 : val Ieee.double 0 = 0 := by rw [val_eq, dBI]; rfl
      rw [h1] at hv
      have := Nat.mul_pos hpos (Nat.two_pow_pos c925); omega
    · exact h
  obtain ⟨R, hR, r1, r2, lo, hiR⟩ := sqrt_exact (x := ((upR ρ : Nat) : Int)) (by omega) (by omega)
  simp only [Int.toNat_natCast] at lo hiR
  -- in numbers of 32 bits
  have e1 : ∀ q, q < 2139095040 → val Ieee.double (upR q) * val Ieee.double (upR q) = (val Ieee.single q * val Ieee.single q) * (2 ^ c925 * 2 ^ c925) := fun q hq => by
    rw [(upR_val hq).1, Nat.mul_mul_mul_comm]
  have e2 : val Ieee.double (upR ρ) * 2 ^ c1074 = (val Ieee.single ρ * 2 ^ 149) * (2 ^ c925 * 2 ^ c925) := by
    have a1 : c925 = 925 := by unfold c925; rfl
    have a2 : c1074 = 1074 := by unfold c1074; rfl
    rw [hv, Nat.mul_assoc, Nat.mul_assoc, ← Nat.pow_add, ← Nat.pow_add, ← Nat.pow_add]
    congr 2
  have pc : 0 < 2 ^ c925 * 2 ^ c925 := Nat.mul_pos (Nat.two_pow_pos _) (Nat.two_pow_pos _)
  have lo' : ∀ q, q < 2139095040 → upR q < R → val Ieee.single q * val Ieee.single q ≤ val Ieee.single ρ * 2 ^ 149 := fun q hq hlt => by
    have := lo (upR q) hlt
    rw [e1 q hq, e2] at this
    exact Nat.le_of_mul_le_mul_right this pc
  have hi' : ∀ q, q < 2139095040 → R < upR q → val Ieee.single ρ * 2 ^ 149 ≤ val Ieee.single q * val Ieee.single q := fun q hq hlt => by
    have := hiR (upR q) hlt (upR_le q)
    rw [e1 q hq, e2] at this
    exact Nat.le_of_mul_le_mul_right this pc
  have back : rungOf Ieee.single (val Ieee.single ρ * 2 ^ 149) (-298) = ρ := by
    have := rung_val Ieee.single (r := ρ) (by rw [sIR]; omega) 149
    rw [sLP] at this
    exact this
  have n1 : 1 ≤ dn R := by
    rcases Nat.lt_or_ge R (upR 1) with h | h
    · exfalso
      have h1 := hi' 1 (by decide) h
      have h2 : val Ieee.single 1 = 1 := by rw [val_eq, sBI, if_pos (by decide)]
      rw [h2] at h1
      have h3 : 1 * 2 ^ 149 ≤ val Ieee.single ρ * 2 ^ 149 := Nat.mul_le_mul_right _ hpos
      have h4 : (1 : Nat) * 1 < 1 * 2 ^ 149 := by decide
      omega
    · have := dn_mono h
      rw [dn_up (by decide)] at this
      exact this
  have n2 : dn R ≤ 1602224128 := by
    rcases Nat.lt_or_ge (upR 1602224128) R with h | h
    · exfalso
      have h1 := lo' 1602224128 (by decide) h
      have h2 := great_rung32 190
      rw [sBI, show (190 + 1) * 8388608 = 1602224128 by decide] at h2
      have h3 := val_lt Ieee.single hi
      have h4 := great_rung32 254
      rw [sBI, show (254 + 1) * 8388608 = 2139095040 by decide] at h4
      rw [h2] at h1
      rw [h4] at h3
      have h5 := Nat.mul_lt_mul_of_pos_right h3 (show 0 < 2 ^ 149 by decide)
      have h6 : (8388608 * 2 ^ 254) * 2 ^ 149 = (8388608 * 2 ^ 190) * (8388608 * 2 ^ 190) := by
        rw [show 8388608 = 2 ^ 23 by decide]
      rw [h6] at h5
      omega
    · have := dn_mono h
      rw [dn_up (by decide)] at this
      exact this
  refine ⟨R, hR, r2, n1, n2, fun q hq => ?_, fun q hq hqi => ?_⟩
  · have h1 : upR q < R := by
      rcases Nat.lt_or_ge (upR q) R with h | h
      · exact h
      · have := dn_mono h
        rw [dn_up (by omega)] at this
        omega
    have := rung_mono Ieee.single (-298) (lo' q (by omega) h1)
    rwa [back] at this
  · have h1 : R < upR q := by
      rcases Nat.lt_or_ge R (upR q) with h | h
      · exact h
      · have := dn_mono h
        rw [dn_up hqi] at this
        omega
    have := rung_mono Ieee.single (-298) (hi' q hqi h1)
    rwa [back] at this
theorem mul_read32 {q m : Nat} {p : Int} (hr : Ieee.single.read q = .number false m p) : Ieee.single.mul q q = some (rungOf Ieee.single (m * m) (p + p)) := by
  unfold Format.mul
  rw [hr]
  unfold Datum.product
  simp only [Option.map_some]
  unfold Format.write
  simp only [bne_self_eq_false]
  rw [nearest_rung]
  unfold Format.word
  simp
theorem mul_sq32 {q : Nat} (hq : q < 2139095040) : farI .mul .f32 (q : Int) (q : Int) = ((rungOf Ieee.single (val Ieee.single q * val Ieee.single q) (-298) : Nat) : Int) := by
  have hm : q % Ieee.single.signWeight = q := by rw [sSW]; omega
  have hs : (q / Ieee.single.signWeight % 2 == 1) = false := by
    have : q / Ieee.single.signWeight = 0 := by rw [sSW]; omega
    rw [this]; rfl
  have hr : Ieee.single.read q = .number false (magOf Ieee.single q) (placeOf Ieee.single q) := by
    have := read_fin Ieee.single (w := q) (by rw [hm, sIR]; exact hq)
    rw [hm, hs] at this; exact this
  have hg := place_ge Ieee.single q
  rw [sLP] at hg
  have hsc := rung_scale Ieee.single (magOf Ieee.single q * magOf Ieee.single q) ((placeOf Ieee.single q + 149).toNat + (placeOf Ieee.single q + 149).toNat) (placeOf Ieee.single q + placeOf Ieee.single q)
  have hvv : val Ieee.single q * val Ieee.single q = magOf Ieee.single q * magOf Ieee.single q * 2 ^ ((placeOf Ieee.single q + 149).toNat + (placeOf Ieee.single q + 149).toNat) := by
    unfold val
    rw [sLP, show placeOf Ieee.single q - -149 = placeOf Ieee.single q + 149 by omega, Nat.pow_add, Nat.mul_mul_mul_comm]
  have hpl : placeOf Ieee.single q + placeOf Ieee.single q - (((placeOf Ieee.single q + 149).toNat + (placeOf Ieee.single q + 149).toNat : Nat) : Int) = -298 := by omega
  rw [hpl, ← hvv] at hsc
  rw [hsc]
  generalize magOf Ieee.single q = m at hr ⊢
  generalize placeOf Ieee.single q = p at hr ⊢
  have e : Ieee.single.mul q q = some (rungOf Ieee.single (m * m) (p + p)) := mul_read32 hr
  rw [farI_eq, Int.toNat_natCast]
  show (match Ieee.single.mul q q with | some r => (r : Int) | none => -1) = _
  rw [e]
/-- a positive float of 64 bits as one of 32 -/
theorem conv_dn {R : Nat} (hR : R < 9218868437227405312) (hd : dn R < 2139095040) : fconvI .f64 .f32 (R : Int) = (dn R : Int) := by
  have hm : R % Ieee.double.signWeight = R := by rw [dSW]; omega
  have hs : (R / Ieee.double.signWeight % 2 == 1) = false := by
    have : R / Ieee.double.signWeight = 0 := by rw [dSW]; omega
    rw [this]; rfl
  have hr : FloatKind.f64.decode (R : Int).toNat = .number false (magOf Ieee.double R) (placeOf Ieee.double R) := by
    have := read_fin Ieee.double (w := R) (by rw [hm, dIR]; exact hR)
    rw [hm, hs] at this
    rw [Int.toNat_natCast]; exact this
  have e : Ieee.single.nearest false (magOf Ieee.double R) (placeOf Ieee.double R) = Ieee.single.word false (dn R) := by
    rw [nearest_rung]; rfl
  have hi : (FloatKind.f32.decode (FloatKind.f32.encode (.number false (magOf Ieee.double R) (placeOf Ieee.double R)))).isInfinity = false := by
    show (Ieee.single.read (Ieee.single.nearest _ _ _)).isInfinity = false
    rw [e]; exact read_word_fin _ _ (by rw [sIR]; exact hd)
  unfold fconvI
  rw [hr]
  simp only
  rw [if_neg (by rw [hi]; simp)]
  show ((Ieee.single.nearest _ _ _ : Nat) : Int) = _
  rw [e, word32]
  simp
theorem sqrt32_pos {x : Int} (h0 : 0 < x) (hi : x < 2139095040) : ∃ r : Nat, fconvI .f64 .f32 (fsqrtI (fconvI .f32 .f64 x)) = r ∧ (∃ R : Nat, fsqrtI (fconvI .f32 .f64 x) = R) ∧ 1 ≤ r ∧ r ≤ 1602224128 ∧
    (∀ q, q < r → ((rungOf Ieee.single (val Ieee.single q * val Ieee.single q) (-298) : Nat) : Int) ≤ x) ∧ (∀ q, r < q → q < 2139095040 → x ≤ ((rungOf Ieee.single (val Ieee.single q * val Ieee.single q) (-298) : Nat) : Int)) := by
  obtain ⟨ρ, rfl⟩ := Int.eq_ofNat_of_zero_le (Int.le_of_lt h0)
  have hm : mg .f32 (ρ : Int) = ρ := by unfold mg; rw [kM32, if_neg (by omega)]
  have hc : fconvI .f32 .f64 (ρ : Int) = ((upR ρ : Nat) : Int) := by
    rw [conv_up (by simp only [topF]; omega) (by rw [hm, kI32]; omega)]
    unfold upW
    rw [hm, if_neg (by omega), Int.toNat_natCast]; omega
  obtain ⟨R, hR, r2, n1, n2, lo, hh⟩ := root32 (ρ := ρ) (by omega) (by omega)
  rw [hc, hR]
  refine ⟨dn R, conv_dn (by omega) (by omega), ⟨R, rfl⟩, n1, n2, fun q hq => ?_, fun q hq hqi => ?_⟩
  · have := lo q hq; omega
  · have := hh q hq hqi; omega
end Go.Sx

/- A root rounded twice is the root rounded once. No condition. -/
namespace Go.Sx.Ref
set_option linter.unusedVariables false
open Go Go.Sx Ieee
theorem double_root {m a w k j : Nat} {e : Int} (hm2 : m < 16777216) (hroot : IsRoot (m * 2 ^ a) w) (hk : 2 ^ (j + 24) ≤ w) (hk2 : w < 2 ^ (j + 25)) (hj : 28 ≤ j) (he : -1074 ≤ e + j - 27) (he2 : e + j ≤ 900) (N : Nat) (hN : N = m * 2 ^ a) :
    dn (rungOf Ieee.double (2 * w + (if w * w = N then 0 else 1)) e) = rungOf Ieee.single (2 * w + (if w * w = N then 0 else 1)) e := by
  obtain ⟨st, hst⟩ : ∃ st, (if w * w = N then 0 else 1) = st := ⟨_, rfl⟩
  rw [hst]
  have hst1 : st ≤ 1 := by rw [← hst]; split <;> omega
  obtain ⟨D, hD⟩ : ∃ D, 2 ^ (j - 28) = D := ⟨_, rfl⟩
  have hD0 : 0 < D := by rw [← hD]; exact Nat.two_pow_pos _
  have hP : (2 : Nat) ^ j = 268435456 * D := by rw [← hD, show j = 28 + (j - 28) by omega, Nat.pow_add, show 28 + (j - 28) - 28 = j - 28 by omega]
  obtain ⟨P, hPd⟩ : ∃ P, 2 ^ j = P := ⟨_, rfl⟩
  rw [hPd] at hP
  have hP0 : 0 < P := by omega
  obtain ⟨H, hH⟩ : ∃ H, w / P = H := ⟨_, rfl⟩
  obtain ⟨t, ht⟩ : ∃ t, w % P = t := ⟨_, rfl⟩
  have htP : t < P := by rw [← ht]; exact Nat.mod_lt _ hP0
  have hw : w = H * P + t := by have := Nat.div_add_mod w P; rw [hH, ht, Nat.mul_comm] at this; exact this.symm
  have hH1 : 16777216 ≤ H := by
    rw [← hH, Nat.le_div_iff_mul_le hP0, ← hPd]
    have : (16777216 : Nat) * 2 ^ j = 2 ^ (j + 24) := by rw [Nat.pow_add, Nat.mul_comm]
    omega
  have hH2 : H < 33554432 := by
    rw [← hH, Nat.div_lt_iff_lt_mul hP0, ← hPd]
    have : (33554432 : Nat) * 2 ^ j = 2 ^ (j + 25) := by rw [Nat.pow_add, Nat.mul_comm]
    omega
  -- the dividend is a multiple of P * P
  have ha : 2 * j ≤ a := by
    rcases Nat.lt_or_ge a (2 * j) with h | h
    · exfalso
      have h1 : m * 2 ^ a < 16777216 * 2 ^ a := Nat.mul_lt_mul_of_pos_right hm2 (Nat.two_pow_pos a)
      have h2 : (16777216 : Nat) * 2 ^ a = 2 ^ (24 + a) := by rw [Nat.pow_add]
      have h3 : (2 : Nat) ^ (24 + a) ≤ 2 ^ (2 * (j + 24)) := Nat.pow_le_pow_right (by decide) (by omega)
      have h4 : 2 ^ (2 * (j + 24)) ≤ m * 2 ^ a + 0 := by
        have h5 := Nat.mul_le_mul hk hk
        rw [← Nat.pow_add, show j + 24 + (j + 24) = 2 * (j + 24) by omega] at h5
        exact Nat.le_trans h5 (Nat.le_trans hroot.1 (Nat.le_refl _))
      omega
    · exact h
  obtain ⟨c, hc⟩ : ∃ c, m * 2 ^ (a - 2 * j) = c := ⟨_, rfl⟩
  have hNc : m * 2 ^ a = c * (P * P) := by
    rw [← hc, ← hPd, ← Nat.pow_add, Nat.mul_assoc, ← Nat.pow_add]; congr 2; omega
  have sq : ∀ x : Nat, x * P * (x * P) = x * x * (P * P) := fun x => by rw [Nat.mul_assoc, ← Nat.mul_assoc P, Nat.mul_comm P x, Nat.mul_assoc x P, ← Nat.mul_assoc]
  have hPP : 0 < P * P := Nat.mul_pos hP0 hP0
  rw [hNc] at hroot
  have hc1 : H * H ≤ c := by
    rcases Nat.lt_or_ge c (H * H) with h | h
    · exfalso
      have h1 : H * P * (H * P) ≤ w * w := Nat.mul_le_mul (by omega) (by omega)
      rw [sq] at h1
      have h2 : (c + 1) * (P * P) ≤ H * H * (P * P) := Nat.mul_le_mul_right _ h
      rw [Nat.add_mul, Nat.one_mul] at h2
      have := hroot.1
      omega
    · exact h
  have hc2 : c < (H + 1) * (H + 1) := by
    rcases Nat.lt_or_ge c ((H + 1) * (H + 1)) with h | h
    · exact h
    · exfalso
      have h1 : (w + 1) * (w + 1) ≤ (H + 1) * P * ((H + 1) * P) := by
        have : w + 1 ≤ (H + 1) * P := by rw [Nat.add_mul, Nat.one_mul]; omega
        exact Nat.mul_le_mul this this
      rw [sq] at h1
      have h2 := Nat.mul_le_mul_right (P * P) h
      have := hroot.2
      omega
  by_cases hex : c = H * H
  · -- exact
    have hw2 : w = H * P := by
      have h1 : H * P < w + 1 := sq_lt (Nat.lt_of_le_of_lt (by rw [sq, hex]; exact Nat.le_refl _) hroot.2)
      have h2 : w < H * P + 1 := by
        have h3 : w * w ≤ H * P * (H * P) := by rw [sq, ← hex]; exact hroot.1
        exact sq_lt (Nat.lt_of_le_of_lt h3 (Nat.mul_lt_mul'' (Nat.lt_succ_self _) (Nat.lt_succ_self _)))
      omega
    have hst0 : st = 0 := by
      rw [← hst, if_pos]
      rw [hN, hNc, hw2, sq, hex]
    rw [hst0, hw2, Nat.add_zero, ← Nat.mul_assoc, ← hPd, rung_up, rung_up, dn_val]
    have hv := (val_exact Ieee.double (n := 2 * H) (e := e + j) (by show 2 * H < 2 * 2 ^ 52; omega) (by show -1074 ≤ e + j; omega) (by
      have h1 : Ieee.double.leastPlace = -1074 := by decide
      have h2 : Ieee.double.binade = 4503599627370496 := by decide
      have h3 : Ieee.double.infRung = 9218868437227405312 := by decide
      rw [h1, h2, h3]; omega)).1
    have hl : Ieee.double.leastPlace = -1074 := by decide
    rw [hl] at hv
    rw [hv, rung_up]
    congr 1
    omega
  · -- between two numbers of 25 digits
    have lo : H * P + D ≤ w := by
      have h1 : (H * P + D) * (H * P + D) ≤ (H * H + 1) * (P * P) := by
        have e1 : (H * P + D) * (H * P + D) = H * H * (P * P) + 2 * (H * P * D) + D * D := by
          rw [Nat.add_mul, Nat.mul_add, Nat.mul_add, sq, Nat.mul_comm D (H * P)]; omega
        have e2 : 2 * (H * P * D) + D * D ≤ P * P := by
          have h3 : H * P * D = H * (268435456 * (D * D)) := by rw [hP, Nat.mul_assoc, Nat.mul_assoc]
          have h4 : P * P = 268435456 * 268435456 * (D * D) := by rw [hP, Nat.mul_mul_mul_comm]
          have h5 : H * (268435456 * (D * D)) ≤ 33554432 * (268435456 * (D * D)) := Nat.mul_le_mul_right _ (by omega)
          rw [h3, h4]
          generalize D * D = Q at *
          omega
        rw [e1, Nat.add_mul, Nat.one_mul]; omega
      have h2 : (H * H + 1) * (P * P) ≤ c * (P * P) := Nat.mul_le_mul_right _ (by omega)
      have := sq_lt (Nat.lt_of_le_of_lt (Nat.le_trans h1 h2) hroot.2)
      omega
    have hi : w + D < (H + 1) * P := by
      rcases Nat.lt_or_ge (w + D) ((H + 1) * P) with h | h
      · exact h
      · exfalso
        have h1 : (H + 1) * P - D ≤ w := by omega
        have h2 := Nat.mul_le_mul h1 h1
        have hDP : D ≤ (H + 1) * P := Nat.le_trans (by omega) (Nat.le_mul_of_pos_left P (Nat.succ_pos H))
        obtain ⟨X, hX⟩ : ∃ X, (H + 1) * P = X + D := ⟨(H + 1) * P - D, by omega⟩
        rw [hX, Nat.add_sub_cancel] at h2
        have h3 : (X + D) * (X + D) = (H + 1) * (H + 1) * (P * P) := by rw [← hX, sq]
        have h4 : X * X + 2 * (X * D) + D * D = (H + 1) * (H + 1) * (P * P) := by
          rw [← h3, Nat.add_mul, Nat.mul_add, Nat.mul_add, Nat.mul_comm D X]; omega
        have h5 : (c + 1) * (P * P) ≤ (H + 1) * (H + 1) * (P * P) := Nat.mul_le_mul_right _ hc2
        rw [Nat.add_mul, Nat.one_mul] at h5
        have h6 : 2 * (X * D) + D * D < P * P := by
          have h7 : X * D + D * D = (H + 1) * (268435456 * (D * D)) := by
            rw [← Nat.add_mul, ← hX, hP, Nat.mul_assoc, Nat.mul_assoc]
          have h8 : P * P = 268435456 * 268435456 * (D * D) := by rw [hP, Nat.mul_mul_mul_comm]
          have h9 : (H + 1) * (268435456 * (D * D)) ≤ 33554432 * (268435456 * (D * D)) := Nat.mul_le_mul_right _ (by omega)
          have hDD : 0 < D * D := Nat.mul_pos hD0 hD0
          rw [h8]
          generalize D * D = Q at *
          generalize X * D = Y at *
          omega
        have := hroot.1
        omega
    have ht1 : D ≤ t := by omega
    have ht2 : t + D < P := by rw [Nat.add_mul, Nat.one_mul] at hi; omega
    have hl : Ieee.double.leastPlace = -1074 := by decide
    have hF : (2 : Nat) ^ (Ieee.single.fractionBits + 1) = 16777216 := by decide
    -- as one of 32 bits
    have e1 : 2 * w + st = H * 2 ^ (j + 1) + (2 * t + st) := by rw [Nat.pow_succ, hPd, hw, ← Nat.mul_assoc]; omega
    have r1 : rungOf Ieee.single (2 * w + st) e = rungOf Ieee.single (2 * H + 1) (e + j) := by
      rw [e1, rung_sticky Ieee.single _ (by omega) (by rw [Nat.pow_succ, hPd]; omega) (by rw [hF]; exact hH1)]
      congr 1
      omega
    -- the double lies strictly between
    obtain ⟨q, hq⟩ : ∃ q : Nat, (q : Int) = e + j - 27 + 1074 := ⟨(e + j - 27 + 1074).toNat, by omega⟩
    have hD2 : 2 ^ (j - 27) = 2 * D := by rw [← hD, show j - 27 = (j - 28) + 1 by omega, Nat.pow_succ, Nat.mul_comm]
    have edge : ∀ L : Nat, L < 9007199254740992 → val Ieee.double (rungOf Ieee.double (L * 2 ^ (j - 27)) e) = L * 2 ^ q := fun L hL => by
      have hv := (val_exact Ieee.double (n := L) (e := e + j - 27) (by show L < 2 * 2 ^ 52; omega) (by rw [hl]; omega) (by
        have h2 : Ieee.double.binade = 4503599627370496 := by decide
        have h3 : Ieee.double.infRung = 9218868437227405312 := by decide
        rw [hl, h2, h3]; omega)).1
      rw [rung_up, show e + ((j - 27 : Nat) : Int) = e + j - 27 by omega, hv, hl, show (e + j - 27 - -1074).toNat = q by omega]
    have vmono : ∀ {x y : Nat}, x ≤ y → val Ieee.double x ≤ val Ieee.double y := fun h => by
      rcases Nat.lt_or_eq_of_le h with h | h
      · exact Nat.le_of_lt (val_lt _ h)
      · rw [h]; exact Nat.le_refl _
    have b1 := vmono (rung_mono Ieee.double e (show (H * 268435456 + 1) * 2 ^ (j - 27) ≤ 2 * w + st by rw [hD2, hw, hP, Nat.add_mul, Nat.one_mul, show H * 268435456 * (2 * D) = 2 * (H * (268435456 * D)) by rw [Nat.mul_mul_mul_comm, Nat.mul_comm H 2, Nat.mul_assoc] ]; omega))
    have b2 := vmono (rung_mono Ieee.double e (show 2 * w + st ≤ (H * 268435456 + 268435455) * 2 ^ (j - 27) by rw [hD2, hw, hP, Nat.add_mul, show H * 268435456 * (2 * D) = 2 * (H * (268435456 * D)) by rw [Nat.mul_mul_mul_comm, Nat.mul_comm H 2, Nat.mul_assoc] ]; omega))
    rw [edge _ (by omega)] at b1 b2
    obtain ⟨V, hV⟩ : ∃ V, val Ieee.double (rungOf Ieee.double (2 * w + st) e) = V := ⟨_, rfl⟩
    rw [hV] at b1 b2
    rw [r1, dn_val, hV]
    have hq0 := Nat.two_pow_pos q
    have hq28 : (2 : Nat) ^ (28 + q) = 268435456 * 2 ^ q := by rw [Nat.pow_add]
    rw [Nat.add_mul, Nat.mul_assoc] at b1 b2
    obtain ⟨s, hs⟩ : ∃ s, V = H * (268435456 * 2 ^ q) + s := ⟨V - H * (268435456 * 2 ^ q), by omega⟩
    rw [hs, ← hq28, rung_sticky Ieee.single _ (by omega) (by rw [hq28]; omega) (by rw [hF]; exact hH1)]
    congr 1
    omega
end Go.Sx.Ref
