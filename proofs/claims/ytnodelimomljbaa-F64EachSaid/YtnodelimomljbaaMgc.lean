/- Texts that a claim needs, put together: the engine, plain lemmas, contracts. No condition. -/
import Derived.Test.YtnodelimomljbaaMgb
import Derived.KernelRfl

/- The ways of the reference's floats through numbers, and that the code takes no other. No condition. -/
namespace Go.Proofs.Ytnodelimomljbaa.RunRndA0
open Go Go.Sx Go.Sx.Flt Go.Sx.Ref

def rndA0R : List Leaf := [
  ([(.bin .eq (.bin (.bits .or .u64) (.var 1) (.var 2)) (.lit 0)), (.bin .lt (.bin .sub (.lit (-1074)) (.var 3)) (.lit 0)), (.bin .lt (.bin .add (.fn 0 (.bin .add (.bin .mul (.var 1) (.lit 18446744073709551616)) (.var 2)) (.lit 0) (.lit 0)) (.lit (-53))) (.bin .sub (.lit (-1074)) (.var 3))), (.bin .le (.lit (-5000)) (.var 3)), (.bin .le (.var 3) (.lit 5000))], (.int .u64 (.ite (.un .bnot (.un .bnot (.var 0))) (.lit 9223372036854775808) (.lit 0)))),
  ([(.bin .le (.lit 2047) (.bin .add (.bin .add (.var 3) (.bin .sub (.lit (-1074)) (.var 3))) (.lit 1076))), (.bin .eq (.un (.wrap .u64) (.bin .add (.var 5) (.lit 1))) (.lit 9007199254740992)), (.bin .eq (.var 6) (.lit 1)), (.bin .eq (.var 6) (.fn 3 (.bin .add (.lit 0) (.bin (.shl .u64) (.var 2) (.bin .sub (.lit 0) (.bin .sub (.lit (-1074)) (.var 3))))) (.bin .sub (.lit (-1074)) (.var 3)) (.lit 0))), (.bin .eq (.var 5) (.un (.wrap .u64) (.fn 2 (.bin .add (.lit 0) (.bin (.shl .u64) (.var 2) (.bin .sub (.lit 0) (.bin .sub (.lit (-1074)) (.var 3))))) (.bin .sub (.lit (-1074)) (.var 3)) (.lit 0)))), (.bin .eq (.var 4) (.un (.wrap .u64) (.bin .ediv (.fn 2 (.bin .add (.lit 0) (.bin (.shl .u64) (.var 2) (.bin .sub (.lit 0) (.bin .sub (.lit (-1074)) (.var 3))))) (.bin .sub (.lit (-1074)) (.var 3)) (.lit 0)) (.lit 18446744073709551616)))), (.un .bnot (.bin .eq (.bin (.bits .or .u64) (.var 1) (.var 2)) (.lit 0))), (.bin .lt (.bin .sub (.lit (-1074)) (.var 3)) (.lit 0)), (.bin .lt (.bin .add (.fn 0 (.bin .add (.bin .mul (.var 1) (.lit 18446744073709551616)) (.var 2)) (.lit 0) (.lit 0)) (.lit (-53))) (.bin .sub (.lit (-1074)) (.var 3))), (.bin .le (.lit (-5000)) (.var 3)), (.bin .le (.var 3) (.lit 5000))], (.int .u64 (.ite (.un .bnot (.un .bnot (.var 0))) (.lit 18442240474082181120) (.lit 9218868437227405312)))),
  ([(.bin .lt (.bin .add (.bin .add (.var 3) (.bin .sub (.lit (-1074)) (.var 3))) (.lit 1076)) (.lit 2047)), (.bin .eq (.un (.wrap .u64) (.bin .add (.var 5) (.lit 1))) (.lit 9007199254740992)), (.bin .eq (.var 6) (.lit 1)), (.bin .eq (.var 6) (.fn 3 (.bin .add (.lit 0) (.bin (.shl .u64) (.var 2) (.bin .sub (.lit 0) (.bin .sub (.lit (-1074)) (.var 3))))) (.bin .sub (.lit (-1074)) (.var 3)) (.lit 0))), (.bin .eq (.var 5) (.un (.wrap .u64) (.fn 2 (.bin .add (.lit 0) (.bin (.shl .u64) (.var 2) (.bin .sub (.lit 0) (.bin .sub (.lit (-1074)) (.var 3))))) (.bin .sub (.lit (-1074)) (.var 3)) (.lit 0)))), (.bin .eq (.var 4) (.un (.wrap .u64) (.bin .ediv (.fn 2 (.bin .add (.lit 0) (.bin (.shl .u64) (.var 2) (.bin .sub (.lit 0) (.bin .sub (.lit (-1074)) (.var 3))))) (.bin .sub (.lit (-1074)) (.var 3)) (.lit 0)) (.lit 18446744073709551616)))), (.un .bnot (.bin .eq (.bin (.bits .or .u64) (.var 1) (.var 2)) (.lit 0))), (.bin .lt (.bin .sub (.lit (-1074)) (.var 3)) (.lit 0)), (.bin .lt (.bin .add (.fn 0 (.bin .add (.bin .mul (.var 1) (.lit 18446744073709551616)) (.var 2)) (.lit 0) (.lit 0)) (.lit (-53))) (.bin .sub (.lit (-1074)) (.var 3))), (.bin .le (.lit (-5000)) (.var 3)), (.bin .le (.var 3) (.lit 5000))], (.int .u64 (.bin (.bits .or .u64) (.bin (.bits .or .u64) (.ite (.un .bnot (.un .bnot (.var 0))) (.lit 9223372036854775808) (.lit 0)) (.un (.wrap .u64) (.bin .mul (.un (.wrap .u64) (.bin .add (.bin .add (.var 3) (.bin .sub (.lit (-1074)) (.var 3))) (.lit 1076))) (.lit 4503599627370496)))) (.bin .emod (.bin .ediv (.un (.wrap .u64) (.bin .add (.var 5) (.lit 1))) (.lit 2)) (.lit 4503599627370496))))),
  ([(.bin .lt (.un (.wrap .u64) (.bin .add (.var 5) (.lit 1))) (.lit 4503599627370496)), (.un .bnot (.bin .eq (.un (.wrap .u64) (.bin .add (.var 5) (.lit 1))) (.lit 9007199254740992))), (.bin .eq (.var 6) (.lit 1)), (.bin .eq (.var 6) (.fn 3 (.bin .add (.lit 0) (.bin (.shl .u64) (.var 2) (.bin .sub (.lit 0) (.bin .sub (.lit (-1074)) (.var 3))))) (.bin .sub (.lit (-1074)) (.var 3)) (.lit 0))), (.bin .eq (.var 5) (.un (.wrap .u64) (.fn 2 (.bin .add (.lit 0) (.bin (.shl .u64) (.var 2) (.bin .sub (.lit 0) (.bin .sub (.lit (-1074)) (.var 3))))) (.bin .sub (.lit (-1074)) (.var 3)) (.lit 0)))), (.bin .eq (.var 4) (.un (.wrap .u64) (.bin .ediv (.fn 2 (.bin .add (.lit 0) (.bin (.shl .u64) (.var 2) (.bin .sub (.lit 0) (.bin .sub (.lit (-1074)) (.var 3))))) (.bin .sub (.lit (-1074)) (.var 3)) (.lit 0)) (.lit 18446744073709551616)))), (.un .bnot (.bin .eq (.bin (.bits .or .u64) (.var 1) (.var 2)) (.lit 0))), (.bin .lt (.bin .sub (.lit (-1074)) (.var 3)) (.lit 0)), (.bin .lt (.bin .add (.fn 0 (.bin .add (.bin .mul (.var 1) (.lit 18446744073709551616)) (.var 2)) (.lit 0) (.lit 0)) (.lit (-53))) (.bin .sub (.lit (-1074)) (.var 3))), (.bin .le (.lit (-5000)) (.var 3)), (.bin .le (.var 3) (.lit 5000))], (.int .u64 (.bin (.bits .or .u64) (.ite (.un .bnot (.un .bnot (.var 0))) (.lit 9223372036854775808) (.lit 0)) (.un (.wrap .u64) (.bin .add (.var 5) (.lit 1)))))),
  ([(.bin .le (.lit 2047) (.bin .add (.bin .add (.var 3) (.bin .sub (.lit (-1074)) (.var 3))) (.lit 1075))), (.bin .le (.lit 4503599627370496) (.un (.wrap .u64) (.bin .add (.var 5) (.lit 1)))), (.un .bnot (.bin .eq (.un (.wrap .u64) (.bin .add (.var 5) (.lit 1))) (.lit 9007199254740992))), (.bin .eq (.var 6) (.lit 1)), (.bin .eq (.var 6) (.fn 3 (.bin .add (.lit 0) (.bin (.shl .u64) (.var 2) (.bin .sub (.lit 0) (.bin .sub (.lit (-1074)) (.var 3))))) (.bin .sub (.lit (-1074)) (.var 3)) (.lit 0))), (.bin .eq (.var 5) (.un (.wrap .u64) (.fn 2 (.bin .add (.lit 0) (.bin (.shl .u64) (.var 2) (.bin .sub (.lit 0) (.bin .sub (.lit (-1074)) (.var 3))))) (.bin .sub (.lit (-1074)) (.var 3)) (.lit 0)))), (.bin .eq (.var 4) (.un (.wrap .u64) (.bin .ediv (.fn 2 (.bin .add (.lit 0) (.bin (.shl .u64) (.var 2) (.bin .sub (.lit 0) (.bin .sub (.lit (-1074)) (.var 3))))) (.bin .sub (.lit (-1074)) (.var 3)) (.lit 0)) (.lit 18446744073709551616)))), (.un .bnot (.bin .eq (.bin (.bits .or .u64) (.var 1) (.var 2)) (.lit 0))), (.bin .lt (.bin .sub (.lit (-1074)) (.var 3)) (.lit 0)), (.bin .lt (.bin .add (.fn 0 (.bin .add (.bin .mul (.var 1) (.lit 18446744073709551616)) (.var 2)) (.lit 0) (.lit 0)) (.lit (-53))) (.bin .sub (.lit (-1074)) (.var 3))), (.bin .le (.lit (-5000)) (.var 3)), (.bin .le (.var 3) (.lit 5000))], (.int .u64 (.ite (.un .bnot (.un .bnot (.var 0))) (.lit 18442240474082181120) (.lit 9218868437227405312)))),
  ([(.bin .lt (.bin .add (.bin .add (.var 3) (.bin .sub (.lit (-1074)) (.var 3))) (.lit 1075)) (.lit 2047)), (.bin .le (.lit 4503599627370496) (.un (.wrap .u64) (.bin .add (.var 5) (.lit 1)))), (.un .bnot (.bin .eq (.un (.wrap .u64) (.bin .add (.var 5) (.lit 1))) (.lit 9007199254740992))), (.bin .eq (.var 6) (.lit 1)), (.bin .eq (.var 6) (.fn 3 (.bin .add (.lit 0) (.bin (.shl .u64) (.var 2) (.bin .sub (.lit 0) (.bin .sub (.lit (-1074)) (.var 3))))) (.bin .sub (.lit (-1074)) (.var 3)) (.lit 0))), (.bin .eq (.var 5) (.un (.wrap .u64) (.fn 2 (.bin .add (.lit 0) (.bin (.shl .u64) (.var 2) (.bin .sub (.lit 0) (.bin .sub (.lit (-1074)) (.var 3))))) (.bin .sub (.lit (-1074)) (.var 3)) (.lit 0)))), (.bin .eq (.var 4) (.un (.wrap .u64) (.bin .ediv (.fn 2 (.bin .add (.lit 0) (.bin (.shl .u64) (.var 2) (.bin .sub (.lit 0) (.bin .sub (.lit (-1074)) (.var 3))))) (.bin .sub (.lit (-1074)) (.var 3)) (.lit 0)) (.lit 18446744073709551616)))), (.un .bnot (.bin .eq (.bin (.bits .or .u64) (.var 1) (.var 2)) (.lit 0))), (.bin .lt (.bin .sub (.lit (-1074)) (.var 3)) (.lit 0)), (.bin .lt (.bin .add (.fn 0 (.bin .add (.bin .mul (.var 1) (.lit 18446744073709551616)) (.var 2)) (.lit 0) (.lit 0)) (.lit (-53))) (.bin .sub (.lit (-1074)) (.var 3))), (.bin .le (.lit (-5000)) (.var 3)), (.bin .le (.var 3) (.lit 5000))], (.int .u64 (.bin (.bits .or .u64) (.bin (.bits .or .u64) (.ite (.un .bnot (.un .bnot (.var 0))) (.lit 9223372036854775808) (.lit 0)) (.un (.wrap .u64) (.bin .mul (.un (.wrap .u64) (.bin .add (.bin .add (.var 3) (.bin .sub (.lit (-1074)) (.var 3))) (.lit 1075))) (.lit 4503599627370496)))) (.bin .emod (.un (.wrap .u64) (.bin .add (.var 5) (.lit 1))) (.lit 4503599627370496))))),
  ([(.bin .le (.lit 2047) (.bin .add (.bin .add (.var 3) (.bin .sub (.lit (-1074)) (.var 3))) (.lit 1076))), (.bin .eq (.un (.wrap .u64) (.bin .add (.var 5) (.lit 1))) (.lit 9007199254740992)), (.bin .eq (.bin .emod (.var 5) (.lit 2)) (.lit 1)), (.bin .eq (.var 6) (.lit 0)), (.un .bnot (.bin .eq (.var 6) (.lit 1))), (.bin .eq (.var 6) (.fn 3 (.bin .add (.lit 0) (.bin (.shl .u64) (.var 2) (.bin .sub (.lit 0) (.bin .sub (.lit (-1074)) (.var 3))))) (.bin .sub (.lit (-1074)) (.var 3)) (.lit 0))), (.bin .eq (.var 5) (.un (.wrap .u64) (.fn 2 (.bin .add (.lit 0) (.bin (.shl .u64) (.var 2) (.bin .sub (.lit 0) (.bin .sub (.lit (-1074)) (.var 3))))) (.bin .sub (.lit (-1074)) (.var 3)) (.lit 0)))), (.bin .eq (.var 4) (.un (.wrap .u64) (.bin .ediv (.fn 2 (.bin .add (.lit 0) (.bin (.shl .u64) (.var 2) (.bin .sub (.lit 0) (.bin .sub (.lit (-1074)) (.var 3))))) (.bin .sub (.lit (-1074)) (.var 3)) (.lit 0)) (.lit 18446744073709551616)))), (.un .bnot (.bin .eq (.bin (.bits .or .u64) (.var 1) (.var 2)) (.lit 0))), (.bin .lt (.bin .sub (.lit (-1074)) (.var 3)) (.lit 0)), (.bin .lt (.bin .add (.fn 0 (.bin .add (.bin .mul (.var 1) (.lit 18446744073709551616)) (.var 2)) (.lit 0) (.lit 0)) (.lit (-53))) (.bin .sub (.lit (-1074)) (.var 3))), (.bin .le (.lit (-5000)) (.var 3)), (.bin .le (.var 3) (.lit 5000))], (.int .u64 (.ite (.un .bnot (.un .bnot (.var 0))) (.lit 18442240474082181120) (.lit 9218868437227405312)))),
  ([(.bin .lt (.bin .add (.bin .add (.var 3) (.bin .sub (.lit (-1074)) (.var 3))) (.lit 1076)) (.lit 2047)), (.bin .eq (.un (.wrap .u64) (.bin .add (.var 5) (.lit 1))) (.lit 9007199254740992)), (.bin .eq (.bin .emod (.var 5) (.lit 2)) (.lit 1)), (.bin .eq (.var 6) (.lit 0)), (.un .bnot (.bin .eq (.var 6) (.lit 1))), (.bin .eq (.var 6) (.fn 3 (.bin .add (.lit 0) (.bin (.shl .u64) (.var 2) (.bin .sub (.lit 0) (.bin .sub (.lit (-1074)) (.var 3))))) (.bin .sub (.lit (-1074)) (.var 3)) (.lit 0))), (.bin .eq (.var 5) (.un (.wrap .u64) (.fn 2 (.bin .add (.lit 0) (.bin (.shl .u64) (.var 2) (.bin .sub (.lit 0) (.bin .sub (.lit (-1074)) (.var 3))))) (.bin .sub (.lit (-1074)) (.var 3)) (.lit 0)))), (.bin .eq (.var 4) (.un (.wrap .u64) (.bin .ediv (.fn 2 (.bin .add (.lit 0) (.bin (.shl .u64) (.var 2) (.bin .sub (.lit 0) (.bin .sub (.lit (-1074)) (.var 3))))) (.bin .sub (.lit (-1074)) (.var 3)) (.lit 0)) (.lit 18446744073709551616)))), (.un .bnot (.bin .eq (.bin (.bits .or .u64) (.var 1) (.var 2)) (.lit 0))), (.bin .lt (.bin .sub (.lit (-1074)) (.var 3)) (.lit 0)), (.bin .lt (.bin .add (.fn 0 (.bin .add (.bin .mul (.var 1) (.lit 18446744073709551616)) (.var 2)) (.lit 0) (.lit 0)) (.lit (-53))) (.bin .sub (.lit (-1074)) (.var 3))), (.bin .le (.lit (-5000)) (.var 3)), (.bin .le (.var 3) (.lit 5000))], (.int .u64 (.bin (.bits .or .u64) (.bin (.bits .or .u64) (.ite (.un .bnot (.un .bnot (.var 0))) (.lit 9223372036854775808) (.lit 0)) (.un (.wrap .u64) (.bin .mul (.un (.wrap .u64) (.bin .add (.bin .add (.var 3) (.bin .sub (.lit (-1074)) (.var 3))) (.lit 1076))) (.lit 4503599627370496)))) (.bin .emod (.bin .ediv (.un (.wrap .u64) (.bin .add (.var 5) (.lit 1))) (.lit 2)) (.lit 4503599627370496))))),
  ([(.bin .lt (.un (.wrap .u64) (.bin .add (.var 5) (.lit 1))) (.lit 4503599627370496)), (.un .bnot (.bin .eq (.un (.wrap .u64) (.bin .add (.var 5) (.lit 1))) (.lit 9007199254740992))), (.bin .eq (.bin .emod (.var 5) (.lit 2)) (.lit 1)), (.bin .eq (.var 6) (.lit 0)), (.un .bnot (.bin .eq (.var 6) (.lit 1))), (.bin .eq (.var 6) (.fn 3 (.bin .add (.lit 0) (.bin (.shl .u64) (.var 2) (.bin .sub (.lit 0) (.bin .sub (.lit (-1074)) (.var 3))))) (.bin .sub (.lit (-1074)) (.var 3)) (.lit 0))), (.bin .eq (.var 5) (.un (.wrap .u64) (.fn 2 (.bin .add (.lit 0) (.bin (.shl .u64) (.var 2) (.bin .sub (.lit 0) (.bin .sub (.lit (-1074)) (.var 3))))) (.bin .sub (.lit (-1074)) (.var 3)) (.lit 0)))), (.bin .eq (.var 4) (.un (.wrap .u64) (.bin .ediv (.fn 2 (.bin .add (.lit 0) (.bin (.shl .u64) (.var 2) (.bin .sub (.lit 0) (.bin .sub (.lit (-1074)) (.var 3))))) (.bin .sub (.lit (-1074)) (.var 3)) (.lit 0)) (.lit 18446744073709551616)))), (.un .bnot (.bin .eq (.bin (.bits .or .u64) (.var 1) (.var 2)) (.lit 0))), (.bin .lt (.bin .sub (.lit (-1074)) (.var 3)) (.lit 0)), (.bin .lt (.bin .add (.fn 0 (.bin .add (.bin .mul (.var 1) (.lit 18446744073709551616)) (.var 2)) (.lit 0) (.lit 0)) (.lit (-53))) (.bin .sub (.lit (-1074)) (.var 3))), (.bin .le (.lit (-5000)) (.var 3)), (.bin .le (.var 3) (.lit 5000))], (.int .u64 (.bin (.bits .or .u64) (.ite (.un .bnot (.un .bnot (.var 0))) (.lit 9223372036854775808) (.lit 0)) (.un (.wrap .u64) (.bin .add (.var 5) (.lit 1)))))),
  ([(.bin .le (.lit 2047) (.bin .add (.bin .add (.var 3) (.bin .sub (.lit (-1074)) (.var 3))) (.lit 1075))), (.bin .le (.lit 4503599627370496) (.un (.wrap .u64) (.bin .add (.var 5) (.lit 1)))), (.un .bnot (.bin .eq (.un (.wrap .u64) (.bin .add (.var 5) (.lit 1))) (.lit 9007199254740992))), (.bin .eq (.bin .emod (.var 5) (.lit 2)) (.lit 1)), (.bin .eq (.var 6) (.lit 0)), (.un .bnot (.bin .eq (.var 6) (.lit 1))), (.bin .eq (.var 6) (.fn 3 (.bin .add (.lit 0) (.bin (.shl .u64) (.var 2) (.bin .sub (.lit 0) (.bin .sub (.lit (-1074)) (.var 3))))) (.bin .sub (.lit (-1074)) (.var 3)) (.lit 0))), (.bin .eq (.var 5) (.un (.wrap .u64) (.fn 2 (.bin .add (.lit 0) (.bin (.shl .u64) (.var 2) (.bin .sub (.lit 0) (.bin .sub (.lit (-1074)) (.var 3))))) (.bin .sub (.lit (-1074)) (.var 3)) (.lit 0)))), (.bin .eq (.var 4) (.un (.wrap .u64) (.bin .ediv (.fn 2 (.bin .add (.lit 0) (.bin (.shl .u64) (.var 2) (.bin .sub (.lit 0) (.bin .sub (.lit (-1074)) (.var 3))))) (.bin .sub (.lit (-1074)) (.var 3)) (.lit 0)) (.lit 18446744073709551616)))), (.un .bnot (.bin .eq (.bin (.bits .or .u64) (.var 1) (.var 2)) (.lit 0))), (.bin .lt (.bin .sub (.lit (-1074)) (.var 3)) (.lit 0)), (.bin .lt (.bin .add (.fn 0 (.bin .add (.bin .mul (.var 1) (.lit 18446744073709551616)) (.var 2)) (.lit 0) (.lit 0)) (.lit (-53))) (.bin .sub (.lit (-1074)) (.var 3))), (.bin .le (.lit (-5000)) (.var 3)), (.bin .le (.var 3) (.lit 5000))], (.int .u64 (.ite (.un .bnot (.un .bnot (.var 0))) (.lit 18442240474082181120) (.lit 9218868437227405312)))),
  ([(.bin .lt (.bin .add (.bin .add (.var 3) (.bin .sub (.lit (-1074)) (.var 3))) (.lit 1075)) (.lit 2047)), (.bin .le (.lit 4503599627370496) (.un (.wrap .u64) (.bin .add (.var 5) (.lit 1)))), (.un .bnot (.bin .eq (.un (.wrap .u64) (.bin .add (.var 5) (.lit 1))) (.lit 9007199254740992))), (.bin .eq (.bin .emod (.var 5) (.lit 2)) (.lit 1)), (.bin .eq (.var 6) (.lit 0)), (.un .bnot (.bin .eq (.var 6) (.lit 1))), (.bin .eq (.var 6) (.fn 3 (.bin .add (.lit 0) (.bin (.shl .u64) (.var 2) (.bin .sub (.lit 0) (.bin .sub (.lit (-1074)) (.var 3))))) (.bin .sub (.lit (-1074)) (.var 3)) (.lit 0))), (.bin .eq (.var 5) (.un (.wrap .u64) (.fn 2 (.bin .add (.lit 0) (.bin (.shl .u64) (.var 2) (.bin .sub (.lit 0) (.bin .sub (.lit (-1074)) (.var 3))))) (.bin .sub (.lit (-1074)) (.var 3)) (.lit 0)))), (.bin .eq (.var 4) (.un (.wrap .u64) (.bin .ediv (.fn 2 (.bin .add (.lit 0) (.bin (.shl .u64) (.var 2) (.bin .sub (.lit 0) (.bin .sub (.lit (-1074)) (.var 3))))) (.bin .sub (.lit (-1074)) (.var 3)) (.lit 0)) (.lit 18446744073709551616)))), (.un .bnot (.bin .eq (.bin (.bits .or .u64) (.var 1) (.var 2)) (.lit 0))), (.bin .lt (.bin .sub (.lit (-1074)) (.var 3)) (.lit 0)), (.bin .lt (.bin .add (.fn 0 (.bin .add (.bin .mul (.var 1) (.lit 18446744073709551616)) (.var 2)) (.lit 0) (.lit 0)) (.lit (-53))) (.bin .sub (.lit (-1074)) (.var 3))), (.bin .le (.lit (-5000)) (.var 3)), (.bin .le (.var 3) (.lit 5000))], (.int .u64 (.bin (.bits .or .u64) (.bin (.bits .or .u64) (.ite (.un .bnot (.un .bnot (.var 0))) (.lit 9223372036854775808) (.lit 0)) (.un (.wrap .u64) (.bin .mul (.un (.wrap .u64) (.bin .add (.bin .add (.var 3) (.bin .sub (.lit (-1074)) (.var 3))) (.lit 1075))) (.lit 4503599627370496)))) (.bin .emod (.un (.wrap .u64) (.bin .add (.var 5) (.lit 1))) (.lit 4503599627370496))))),
  ([(.bin .le (.lit 2047) (.bin .add (.bin .add (.var 3) (.bin .sub (.lit (-1074)) (.var 3))) (.lit 1076))), (.bin .eq (.var 5) (.lit 9007199254740992)), (.un .bnot (.bin .eq (.bin .emod (.var 5) (.lit 2)) (.lit 1))), (.bin .eq (.var 6) (.lit 0)), (.un .bnot (.bin .eq (.var 6) (.lit 1))), (.bin .eq (.var 6) (.fn 3 (.bin .add (.lit 0) (.bin (.shl .u64) (.var 2) (.bin .sub (.lit 0) (.bin .sub (.lit (-1074)) (.var 3))))) (.bin .sub (.lit (-1074)) (.var 3)) (.lit 0))), (.bin .eq (.var 5) (.un (.wrap .u64) (.fn 2 (.bin .add (.lit 0) (.bin (.shl .u64) (.var 2) (.bin .sub (.lit 0) (.bin .sub (.lit (-1074)) (.var 3))))) (.bin .sub (.lit (-1074)) (.var 3)) (.lit 0)))), (.bin .eq (.var 4) (.un (.wrap .u64) (.bin .ediv (.fn 2 (.bin .add (.lit 0) (.bin (.shl .u64) (.var 2) (.bin .sub (.lit 0) (.bin .sub (.lit (-1074)) (.var 3))))) (.bin .sub (.lit (-1074)) (.var 3)) (.lit 0)) (.lit 18446744073709551616)))), (.un .bnot (.bin .eq (.bin (.bits .or .u64) (.var 1) (.var 2)) (.lit 0))), (.bin .lt (.bin .sub (.lit (-1074)) (.var 3)) (.lit 0)), (.bin .lt (.bin .add (.fn 0 (.bin .add (.bin .mul (.var 1) (.lit 18446744073709551616)) (.var 2)) (.lit 0) (.lit 0)) (.lit (-53))) (.bin .sub (.lit (-1074)) (.var 3))), (.bin .le (.lit (-5000)) (.var 3)), (.bin .le (.var 3) (.lit 5000))], (.int .u64 (.ite (.un .bnot (.un .bnot (.var 0))) (.lit 18442240474082181120) (.lit 9218868437227405312)))),
  ([(.bin .lt (.bin .add (.bin .add (.var 3) (.bin .sub (.lit (-1074)) (.var 3))) (.lit 1076)) (.lit 2047)), (.bin .eq (.var 5) (.lit 9007199254740992)), (.un .bnot (.bin .eq (.bin .emod (.var 5) (.lit 2)) (.lit 1))), (.bin .eq (.var 6) (.lit 0)), (.un .bnot (.bin .eq (.var 6) (.lit 1))), (.bin .eq (.var 6) (.fn 3 (.bin .add (.lit 0) (.bin (.shl .u64) (.var 2) (.bin .sub (.lit 0) (.bin .sub (.lit (-1074)) (.var 3))))) (.bin .sub (.lit (-1074)) (.var 3)) (.lit 0))), (.bin .eq (.var 5) (.un (.wrap .u64) (.fn 2 (.bin .add (.lit 0) (.bin (.shl .u64) (.var 2) (.bin .sub (.lit 0) (.bin .sub (.lit (-1074)) (.var 3))))) (.bin .sub (.lit (-1074)) (.var 3)) (.lit 0)))), (.bin .eq (.var 4) (.un (.wrap .u64) (.bin .ediv (.fn 2 (.bin .add (.lit 0) (.bin (.shl .u64) (.var 2) (.bin .sub (.lit 0) (.bin .sub (.lit (-1074)) (.var 3))))) (.bin .sub (.lit (-1074)) (.var 3)) (.lit 0)) (.lit 18446744073709551616)))), (.un .bnot (.bin .eq (.bin (.bits .or .u64) (.var 1) (.var 2)) (.lit 0))), (.bin .lt (.bin .sub (.lit (-1074)) (.var 3)) (.lit 0)), (.bin .lt (.bin .add (.fn 0 (.bin .add (.bin .mul (.var 1) (.lit 18446744073709551616)) (.var 2)) (.lit 0) (.lit 0)) (.lit (-53))) (.bin .sub (.lit (-1074)) (.var 3))), (.bin .le (.lit (-5000)) (.var 3)), (.bin .le (.var 3) (.lit 5000))], (.int .u64 (.bin (.bits .or .u64) (.bin (.bits .or .u64) (.ite (.un .bnot (.un .bnot (.var 0))) (.lit 9223372036854775808) (.lit 0)) (.un (.wrap .u64) (.bin .mul (.un (.wrap .u64) (.bin .add (.bin .add (.var 3) (.bin .sub (.lit (-1074)) (.var 3))) (.lit 1076))) (.lit 4503599627370496)))) (.bin .emod (.bin .ediv (.var 5) (.lit 2)) (.lit 4503599627370496))))),
  ([(.bin .lt (.var 5) (.lit 4503599627370496)), (.un .bnot (.bin .eq (.var 5) (.lit 9007199254740992))), (.un .bnot (.bin .eq (.bin .emod (.var 5) (.lit 2)) (.lit 1))), (.bin .eq (.var 6) (.lit 0)), (.un .bnot (.bin .eq (.var 6) (.lit 1))), (.bin .eq (.var 6) (.fn 3 (.bin .add (.lit 0) (.bin (.shl .u64) (.var 2) (.bin .sub (.lit 0) (.bin .sub (.lit (-1074)) (.var 3))))) (.bin .sub (.lit (-1074)) (.var 3)) (.lit 0))), (.bin .eq (.var 5) (.un (.wrap .u64) (.fn 2 (.bin .add (.lit 0) (.bin (.shl .u64) (.var 2) (.bin .sub (.lit 0) (.bin .sub (.lit (-1074)) (.var 3))))) (.bin .sub (.lit (-1074)) (.var 3)) (.lit 0)))), (.bin .eq (.var 4) (.un (.wrap .u64) (.bin .ediv (.fn 2 (.bin .add (.lit 0) (.bin (.shl .u64) (.var 2) (.bin .sub (.lit 0) (.bin .sub (.lit (-1074)) (.var 3))))) (.bin .sub (.lit (-1074)) (.var 3)) (.lit 0)) (.lit 18446744073709551616)))), (.un .bnot (.bin .eq (.bin (.bits .or .u64) (.var 1) (.var 2)) (.lit 0))), (.bin .lt (.bin .sub (.lit (-1074)) (.var 3)) (.lit 0)), (.bin .lt (.bin .add (.fn 0 (.bin .add (.bin .mul (.var 1) (.lit 18446744073709551616)) (.var 2)) (.lit 0) (.lit 0)) (.lit (-53))) (.bin .sub (.lit (-1074)) (.var 3))), (.bin .le (.lit (-5000)) (.var 3)), (.bin .le (.var 3) (.lit 5000))], (.int .u64 (.bin (.bits .or .u64) (.ite (.un .bnot (.un .bnot (.var 0))) (.lit 9223372036854775808) (.lit 0)) (.var 5)))),
  ([(.bin .le (.lit 2047) (.bin .add (.bin .add (.var 3) (.bin .sub (.lit (-1074)) (.var 3))) (.lit 1075))), (.bin .le (.lit 4503599627370496) (.var 5)), (.un .bnot (.bin .eq (.var 5) (.lit 9007199254740992))), (.un .bnot (.bin .eq (.bin .emod (.var 5) (.lit 2)) (.lit 1))), (.bin .eq (.var 6) (.lit 0)), (.un .bnot (.bin .eq (.var 6) (.lit 1))), (.bin .eq (.var 6) (.fn 3 (.bin .add (.lit 0) (.bin (.shl .u64) (.var 2) (.bin .sub (.lit 0) (.bin .sub (.lit (-1074)) (.var 3))))) (.bin .sub (.lit (-1074)) (.var 3)) (.lit 0))), (.bin .eq (.var 5) (.un (.wrap .u64) (.fn 2 (.bin .add (.lit 0) (.bin (.shl .u64) (.var 2) (.bin .sub (.lit 0) (.bin .sub (.lit (-1074)) (.var 3))))) (.bin .sub (.lit (-1074)) (.var 3)) (.lit 0)))), (.bin .eq (.var 4) (.un (.wrap .u64) (.bin .ediv (.fn 2 (.bin .add (.lit 0) (.bin (.shl .u64) (.var 2) (.bin .sub (.lit 0) (.bin .sub (.lit (-1074)) (.var 3))))) (.bin .sub (.lit (-1074)) (.var 3)) (.lit 0)) (.lit 18446744073709551616)))), (.un .bnot (.bin .eq (.bin (.bits .or .u64) (.var 1) (.var 2)) (.lit 0))), (.bin .lt (.bin .sub (.lit (-1074)) (.var 3)) (.lit 0)), (.bin .lt (.bin .add (.fn 0 (.bin .add (.bin .mul (.var 1) (.lit 18446744073709551616)) (.var 2)) (.lit 0) (.lit 0)) (.lit (-53))) (.bin .sub (.lit (-1074)) (.var 3))), (.bin .le (.lit (-5000)) (.var 3)), (.bin .le (.var 3) (.lit 5000))], (.int .u64 (.ite (.un .bnot (.un .bnot (.var 0))) (.lit 18442240474082181120) (.lit 9218868437227405312)))),
  ([(.bin .lt (.bin .add (.bin .add (.var 3) (.bin .sub (.lit (-1074)) (.var 3))) (.lit 1075)) (.lit 2047)), (.bin .le (.lit 4503599627370496) (.var 5)), (.un .bnot (.bin .eq (.var 5) (.lit 9007199254740992))), (.un .bnot (.bin .eq (.bin .emod (.var 5) (.lit 2)) (.lit 1))), (.bin .eq (.var 6) (.lit 0)), (.un .bnot (.bin .eq (.var 6) (.lit 1))), (.bin .eq (.var 6) (.fn 3 (.bin .add (.lit 0) (.bin (.shl .u64) (.var 2) (.bin .sub (.lit 0) (.bin .sub (.lit (-1074)) (.var 3))))) (.bin .sub (.lit (-1074)) (.var 3)) (.lit 0))), (.bin .eq (.var 5) (.un (.wrap .u64) (.fn 2 (.bin .add (.lit 0) (.bin (.shl .u64) (.var 2) (.bin .sub (.lit 0) (.bin .sub (.lit (-1074)) (.var 3))))) (.bin .sub (.lit (-1074)) (.var 3)) (.lit 0)))), (.bin .eq (.var 4) (.un (.wrap .u64) (.bin .ediv (.fn 2 (.bin .add (.lit 0) (.bin (.shl .u64) (.var 2) (.bin .sub (.lit 0) (.bin .sub (.lit (-1074)) (.var 3))))) (.bin .sub (.lit (-1074)) (.var 3)) (.lit 0)) (.lit 18446744073709551616)))), (.un .bnot (.bin .eq (.bin (.bits .or .u64) (.var 1) (.var 2)) (.lit 0))), (.bin .lt (.bin .sub (.lit (-1074)) (.var 3)) (.lit 0)), (.bin .lt (.bin .add (.fn 0 (.bin .add (.bin .mul (.var 1) (.lit 18446744073709551616)) (.var 2)) (.lit 0) (.lit 0)) (.lit (-53))) (.bin .sub (.lit (-1074)) (.var 3))), (.bin .le (.lit (-5000)) (.var 3)), (.bin .le (.var 3) (.lit 5000))], (.int .u64 (.bin (.bits .or .u64) (.bin (.bits .or .u64) (.ite (.un .bnot (.un .bnot (.var 0))) (.lit 9223372036854775808) (.lit 0)) (.un (.wrap .u64) (.bin .mul (.un (.wrap .u64) (.bin .add (.bin .add (.var 3) (.bin .sub (.lit (-1074)) (.var 3))) (.lit 1075))) (.lit 4503599627370496)))) (.bin .emod (.var 5) (.lit 4503599627370496))))),
  ([(.bin .le (.lit 2047) (.bin .add (.bin .add (.var 3) (.bin .sub (.lit (-1074)) (.var 3))) (.lit 1076))), (.bin .eq (.var 5) (.lit 9007199254740992)), (.un .bnot (.bin .eq (.var 6) (.lit 0))), (.un .bnot (.bin .eq (.var 6) (.lit 1))), (.bin .eq (.var 6) (.fn 3 (.bin .add (.lit 0) (.bin (.shl .u64) (.var 2) (.bin .sub (.lit 0) (.bin .sub (.lit (-1074)) (.var 3))))) (.bin .sub (.lit (-1074)) (.var 3)) (.lit 0))), (.bin .eq (.var 5) (.un (.wrap .u64) (.fn 2 (.bin .add (.lit 0) (.bin (.shl .u64) (.var 2) (.bin .sub (.lit 0) (.bin .sub (.lit (-1074)) (.var 3))))) (.bin .sub (.lit (-1074)) (.var 3)) (.lit 0)))), (.bin .eq (.var 4) (.un (.wrap .u64) (.bin .ediv (.fn 2 (.bin .add (.lit 0) (.bin (.shl .u64) (.var 2) (.bin .sub (.lit 0) (.bin .sub (.lit (-1074)) (.var 3))))) (.bin .sub (.lit (-1074)) (.var 3)) (.lit 0)) (.lit 18446744073709551616)))), (.un .bnot (.bin .eq (.bin (.bits .or .u64) (.var 1) (.var 2)) (.lit 0))), (.bin .lt (.bin .sub (.lit (-1074)) (.var 3)) (.lit 0)), (.bin .lt (.bin .add (.fn 0 (.bin .add (.bin .mul (.var 1) (.lit 18446744073709551616)) (.var 2)) (.lit 0) (.lit 0)) (.lit (-53))) (.bin .sub (.lit (-1074)) (.var 3))), (.bin .le (.lit (-5000)) (.var 3)), (.bin .le (.var 3) (.lit 5000))], (.int .u64 (.ite (.un .bnot (.un .bnot (.var 0))) (.lit 18442240474082181120) (.lit 9218868437227405312)))),
  ([(.bin .lt (.bin .add (.bin .add (.var 3) (.bin .sub (.lit (-1074)) (.var 3))) (.lit 1076)) (.lit 2047)), (.bin .eq (.var 5) (.lit 9007199254740992)), (.un .bnot (.bin .eq (.var 6) (.lit 0))), (.un .bnot (.bin .eq (.var 6) (.lit 1))), (.bin .eq (.var 6) (.fn 3 (.bin .add (.lit 0) (.bin (.shl .u64) (.var 2) (.bin .sub (.lit 0) (.bin .sub (.lit (-1074)) (.var 3))))) (.bin .sub (.lit (-1074)) (.var 3)) (.lit 0))), (.bin .eq (.var 5) (.un (.wrap .u64) (.fn 2 (.bin .add (.lit 0) (.bin (.shl .u64) (.var 2) (.bin .sub (.lit 0) (.bin .sub (.lit (-1074)) (.var 3))))) (.bin .sub (.lit (-1074)) (.var 3)) (.lit 0)))), (.bin .eq (.var 4) (.un (.wrap .u64) (.bin .ediv (.fn 2 (.bin .add (.lit 0) (.bin (.shl .u64) (.var 2) (.bin .sub (.lit 0) (.bin .sub (.lit (-1074)) (.var 3))))) (.bin .sub (.lit (-1074)) (.var 3)) (.lit 0)) (.lit 18446744073709551616)))), (.un .bnot (.bin .eq (.bin (.bits .or .u64) (.var 1) (.var 2)) (.lit 0))), (.bin .lt (.bin .sub (.lit (-1074)) (.var 3)) (.lit 0)), (.bin .lt (.bin .add (.fn 0 (.bin .add (.bin .mul (.var 1) (.lit 18446744073709551616)) (.var 2)) (.lit 0) (.lit 0)) (.lit (-53))) (.bin .sub (.lit (-1074)) (.var 3))), (.bin .le (.lit (-5000)) (.var 3)), (.bin .le (.var 3) (.lit 5000))], (.int .u64 (.bin (.bits .or .u64) (.bin (.bits .or .u64) (.ite (.un .bnot (.un .bnot (.var 0))) (.lit 9223372036854775808) (.lit 0)) (.un (.wrap .u64) (.bin .mul (.un (.wrap .u64) (.bin .add (.bin .add (.var 3) (.bin .sub (.lit (-1074)) (.var 3))) (.lit 1076))) (.lit 4503599627370496)))) (.bin .emod (.bin .ediv (.var 5) (.lit 2)) (.lit 4503599627370496))))),
  ([(.bin .lt (.var 5) (.lit 4503599627370496)), (.un .bnot (.bin .eq (.var 5) (.lit 9007199254740992))), (.un .bnot (.bin .eq (.var 6) (.lit 0))), (.un .bnot (.bin .eq (.var 6) (.lit 1))), (.bin .eq (.var 6) (.fn 3 (.bin .add (.lit 0) (.bin (.shl .u64) (.var 2) (.bin .sub (.lit 0) (.bin .sub (.lit (-1074)) (.var 3))))) (.bin .sub (.lit (-1074)) (.var 3)) (.lit 0))), (.bin .eq (.var 5) (.un (.wrap .u64) (.fn 2 (.bin .add (.lit 0) (.bin (.shl .u64) (.var 2) (.bin .sub (.lit 0) (.bin .sub (.lit (-1074)) (.var 3))))) (.bin .sub (.lit (-1074)) (.var 3)) (.lit 0)))), (.bin .eq (.var 4) (.un (.wrap .u64) (.bin .ediv (.fn 2 (.bin .add (.lit 0) (.bin (.shl .u64) (.var 2) (.bin .sub (.lit 0) (.bin .sub (.lit (-1074)) (.var 3))))) (.bin .sub (.lit (-1074)) (.var 3)) (.lit 0)) (.lit 18446744073709551616)))), (.un .bnot (.bin .eq (.bin (.bits .or .u64) (.var 1) (.var 2)) (.lit 0))), (.bin .lt (.bin .sub (.lit (-1074)) (.var 3)) (.lit 0)), (.bin .lt (.bin .add (.fn 0 (.bin .add (.bin .mul (.var 1) (.lit 18446744073709551616)) (.var 2)) (.lit 0) (.lit 0)) (.lit (-53))) (.bin .sub (.lit (-1074)) (.var 3))), (.bin .le (.lit (-5000)) (.var 3)), (.bin .le (.var 3) (.lit 5000))], (.int .u64 (.bin (.bits .or .u64) (.ite (.un .bnot (.un .bnot (.var 0))) (.lit 9223372036854775808) (.lit 0)) (.var 5)))),
  ([(.bin .le (.lit 2047) (.bin .add (.bin .add (.var 3) (.bin .sub (.lit (-1074)) (.var 3))) (.lit 1075))), (.bin .le (.lit 4503599627370496) (.var 5)), (.un .bnot (.bin .eq (.var 5) (.lit 9007199254740992))), (.un .bnot (.bin .eq (.var 6) (.lit 0))), (.un .bnot (.bin .eq (.var 6) (.lit 1))), (.bin .eq (.var 6) (.fn 3 (.bin .add (.lit 0) (.bin (.shl .u64) (.var 2) (.bin .sub (.lit 0) (.bin .sub (.lit (-1074)) (.var 3))))) (.bin .sub (.lit (-1074)) (.var 3)) (.lit 0))), (.bin .eq (.var 5) (.un (.wrap .u64) (.fn 2 (.bin .add (.lit 0) (.bin (.shl .u64) (.var 2) (.bin .sub (.lit 0) (.bin .sub (.lit (-1074)) (.var 3))))) (.bin .sub (.lit (-1074)) (.var 3)) (.lit 0)))), (.bin .eq (.var 4) (.un (.wrap .u64) (.bin .ediv (.fn 2 (.bin .add (.lit 0) (.bin (.shl .u64) (.var 2) (.bin .sub (.lit 0) (.bin .sub (.lit (-1074)) (.var 3))))) (.bin .sub (.lit (-1074)) (.var 3)) (.lit 0)) (.lit 18446744073709551616)))), (.un .bnot (.bin .eq (.bin (.bits .or .u64) (.var 1) (.var 2)) (.lit 0))), (.bin .lt (.bin .sub (.lit (-1074)) (.var 3)) (.lit 0)), (.bin .lt (.bin .add (.fn 0 (.bin .add (.bin .mul (.var 1) (.lit 18446744073709551616)) (.var 2)) (.lit 0) (.lit 0)) (.lit (-53))) (.bin .sub (.lit (-1074)) (.var 3))), (.bin .le (.lit (-5000)) (.var 3)), (.bin .le (.var 3) (.lit 5000))], (.int .u64 (.ite (.un .bnot (.un .bnot (.var 0))) (.lit 18442240474082181120) (.lit 9218868437227405312)))),
  ([(.bin .lt (.bin .add (.bin .add (.var 3) (.bin .sub (.lit (-1074)) (.var 3))) (.lit 1075)) (.lit 2047)), (.bin .le (.lit 4503599627370496) (.var 5)), (.un .bnot (.bin .eq (.var 5) (.lit 9007199254740992))), (.un .bnot (.bin .eq (.var 6) (.lit 0))), (.un .bnot (.bin .eq (.var 6) (.lit 1))), (.bin .eq (.var 6) (.fn 3 (.bin .add (.lit 0) (.bin (.shl .u64) (.var 2) (.bin .sub (.lit 0) (.bin .sub (.lit (-1074)) (.var 3))))) (.bin .sub (.lit (-1074)) (.var 3)) (.lit 0))), (.bin .eq (.var 5) (.un (.wrap .u64) (.fn 2 (.bin .add (.lit 0) (.bin (.shl .u64) (.var 2) (.bin .sub (.lit 0) (.bin .sub (.lit (-1074)) (.var 3))))) (.bin .sub (.lit (-1074)) (.var 3)) (.lit 0)))), (.bin .eq (.var 4) (.un (.wrap .u64) (.bin .ediv (.fn 2 (.bin .add (.lit 0) (.bin (.shl .u64) (.var 2) (.bin .sub (.lit 0) (.bin .sub (.lit (-1074)) (.var 3))))) (.bin .sub (.lit (-1074)) (.var 3)) (.lit 0)) (.lit 18446744073709551616)))), (.un .bnot (.bin .eq (.bin (.bits .or .u64) (.var 1) (.var 2)) (.lit 0))), (.bin .lt (.bin .sub (.lit (-1074)) (.var 3)) (.lit 0)), (.bin .lt (.bin .add (.fn 0 (.bin .add (.bin .mul (.var 1) (.lit 18446744073709551616)) (.var 2)) (.lit 0) (.lit 0)) (.lit (-53))) (.bin .sub (.lit (-1074)) (.var 3))), (.bin .le (.lit (-5000)) (.var 3)), (.bin .le (.var 3) (.lit 5000))], (.int .u64 (.bin (.bits .or .u64) (.bin (.bits .or .u64) (.ite (.un .bnot (.un .bnot (.var 0))) (.lit 9223372036854775808) (.lit 0)) (.un (.wrap .u64) (.bin .mul (.un (.wrap .u64) (.bin .add (.bin .add (.var 3) (.bin .sub (.lit (-1074)) (.var 3))) (.lit 1075))) (.lit 4503599627370496)))) (.bin .emod (.var 5) (.lit 4503599627370496)))))]
set_option maxRecDepth 100000 in
theorem rndA0Ran : runOfG Try.prog (orcs (gOracle gsD0) (orcs (specOracle [longS]) (nameO (specOracle [downS])))) noLoops (bodies fns) [] 4000 rndA0 = some rndA0R := by kernel_rfl
end Go.Proofs.Ytnodelimomljbaa.RunRndA0

/- The reference's floats: how a number that was rounded becomes a word. No condition. -/
namespace Go.Sx.Ref
open Go Go.Sx
theorem u64_wr (n : Int) : IntKind.u64.wrap n = n % 18446744073709551616 := by simp [IntKind.wrap, IntKind.bits, IntKind.signed]
/-- a number of so many bits beside one above it -/
theorem or_at (k : Nat) {a b : Int} (ha : 0 ≤ a) (hd : a % 2 ^ k = 0) (hb : 0 ≤ b) (hlt : b < 2 ^ k) (hs : a + b < 18446744073709551616) : bitI .or .u64 a b = a + b := by
  obtain ⟨x, rfl⟩ := Int.eq_ofNat_of_zero_le ha
  obtain ⟨y, rfl⟩ := Int.eq_ofNat_of_zero_le hb
  have ep : ((2 : Int) ^ k) = ((2 ^ k : Nat) : Int) := by rw [Int.natCast_pow]; rfl
  rw [ep] at hd hlt
  have hd' : x % 2 ^ k = 0 := by exact_mod_cast hd
  have hlt' : y < 2 ^ k := by exact_mod_cast hlt
  unfold bitI
  have e : (BitVec.ofInt IntKind.u64.bits (x : Int) ||| BitVec.ofInt IntKind.u64.bits (y : Int)).toNat = x + y := by
    show (BitVec.ofInt 64 (x : Int) ||| BitVec.ofInt 64 (y : Int)).toNat = _
    have e1 : (((x : Nat) : Int) % 18446744073709551616).toNat = x := by omega
    have e2 : (((y : Nat) : Int) % 18446744073709551616).toNat = y := by omega
    have e3 : x = 2 ^ k * (x / 2 ^ k) := by have := Nat.div_add_mod x (2 ^ k); omega
    rw [BitVec.toNat_or, ofInt_nat, ofInt_nat, e1, e2]
    rw [e3]
    exact (Nat.two_pow_add_eq_or_of_lt hlt' _).symm
  simp only [e]
  rw [u64_wr]
  omega
theorem or_null {a b : Int} (ha : 0 ≤ a ∧ a ≤ 18446744073709551615) (hb : 0 ≤ b ∧ b ≤ 18446744073709551615) : bitI .or .u64 a b = 0 ↔ a = 0 ∧ b = 0 := by
  unfold bitI
  obtain ⟨m, hm⟩ : ∃ m, (BitVec.ofInt IntKind.u64.bits a ||| BitVec.ofInt IntKind.u64.bits b).toNat = m := ⟨_, rfl⟩
  have e : m = a.toNat ||| b.toNat := by
    rw [← hm]
    show (BitVec.ofInt 64 a ||| BitVec.ofInt 64 b).toNat = _
    rw [BitVec.toNat_or, ofInt_nat, ofInt_nat]
    congr 1 <;> omega
  have hlt : m < 18446744073709551616 := by rw [← hm]; exact (BitVec.ofInt 64 a ||| BitVec.ofInt 64 b).isLt
  have h1 : a.toNat ≤ m := by rw [e]; exact Nat.left_le_or
  have h2 : b.toNat ≤ m := by rw [e]; exact Nat.right_le_or
  simp only [hm, u64_wr]
  constructor
  · intro h; omega
  · rintro ⟨rfl, rfl⟩
    rw [e]; decide
theorem p52 : (2 : Int) ^ 52 = 4503599627370496 := by decide
theorem p63 : (2 : Int) ^ 63 = 9223372036854775808 := by decide
theorem or_sign {s b : Int} (hs : s = 0 ∨ s = 9223372036854775808) (hb : 0 ≤ b ∧ b < 9223372036854775808) : bitI .or .u64 s b = s + b := by
  refine or_at 63 (by omega) ?_ hb.1 (by rw [p63]; omega) (by omega)
  rw [p63]; omega
theorem or_three {s e f : Int} (hs : s = 0 ∨ s = 9223372036854775808) (he : 0 ≤ e ∧ e < 2047) (hf : 0 ≤ f ∧ f < 4503599627370496) :
    bitI .or .u64 (bitI .or .u64 s (IntKind.u64.wrap (IntKind.u64.wrap e * 4503599627370496))) f = s + e * 4503599627370496 + f := by
  have h1 : IntKind.u64.wrap e = e := by rw [u64_wr]; omega
  have h2 : IntKind.u64.wrap (e * 4503599627370496) = e * 4503599627370496 := by rw [u64_wr]; omega
  rw [h1, h2, or_sign hs (by omega)]
  refine or_at 52 (by omega) ?_ hf.1 (by rw [p52]; omega) (by omega)
  rw [p52]; omega
/-- the word of a number that was rounded to m, T above the least place -/
def word52 (s T m : Int) : Int := s + min (T * 4503599627370496 + m) 9218868437227405312
theorem finish {s T m : Int} (hs : s = 0 ∨ s = 9223372036854775808) (hm : 0 ≤ m ∧ m ≤ 9007199254740992) (hT : 0 ≤ T) (hlow : m < 4503599627370496 → T = 0) :
    (m = 9007199254740992 → 2047 ≤ T + 2 → s + 9218868437227405312 = word52 s T m) ∧
    (m = 9007199254740992 → T + 2 < 2047 → bitI .or .u64 (bitI .or .u64 s (IntKind.u64.wrap (IntKind.u64.wrap (T + 2) * 4503599627370496))) (m / 2 % 4503599627370496) = word52 s T m) ∧
    (m < 4503599627370496 → bitI .or .u64 s m = word52 s T m) ∧
    (4503599627370496 ≤ m → 2047 ≤ T + 1 → s + 9218868437227405312 = word52 s T m) ∧
    (4503599627370496 ≤ m → ¬ m = 9007199254740992 → T + 1 < 2047 → bitI .or .u64 (bitI .or .u64 s (IntKind.u64.wrap (IntKind.u64.wrap (T + 1) * 4503599627370496))) (m % 4503599627370496) = word52 s T m) := by
  unfold word52
  refine ⟨fun h1 h2 => by omega, fun h1 h2 => ?_, fun h1 => ?_, fun h1 h2 => by omega, fun h1 h2 h3 => ?_⟩
  · rw [or_three hs (by omega) (by omega)]; omega
  · rw [or_sign hs (by omega)]
    have := hlow h1
    subst this
    omega
  · rw [or_three hs (by omega) (by omega)]; omega

/-! ### rounding, by what was lost -/
theorem rne_lost (n k : Nat) : rne n k = n / 2 ^ k + (if lost n k = 1 ∨ (lost n k = 0 ∧ n / 2 ^ k % 2 = 1) then 1 else 0) := by
  unfold rne lost
  congr 1
  have hp := Nat.two_pow_pos k
  have hr := Nat.mod_lt n hp
  by_cases hk : (k : Int) ≤ 0
  · have : k = 0 := by omega
    subst this
    rw [if_pos hk]
    simp [Nat.mod_one]
  · rw [if_neg hk, Int.toNat_natCast]
    by_cases h0 : n % 2 ^ k = 0
    · rw [if_pos h0, if_neg (by omega), if_neg (by omega)]
    · rw [if_neg h0]
      by_cases h1 : 2 * (n % 2 ^ k) < 2 ^ k
      · rw [if_pos h1, if_neg (by omega), if_neg (by omega)]
      · rw [if_neg h1]
        by_cases h2 : 2 * (n % 2 ^ k) = 2 ^ k
        · rw [if_pos h2]
          by_cases h3 : n / 2 ^ k % 2 = 1
          · rw [if_pos (by omega), if_pos (by omega)]
          · rw [if_neg (by omega), if_neg (by omega)]
        · rw [if_neg h2, if_pos (by omega), if_pos (by omega)]
/-- the rung of a number, by how many bits are too many -/
theorem rung_double {n : Nat} (hn : n ≠ 0) (e k : Int) (hk : k = max ((lenN n : Int) - 53) (-1074 - e)) :
    ((rungOf Ieee.double n e : Nat) : Int) = min ((e + k + 1074) * 4503599627370496 + (rne (n * 2 ^ (-k).toNat) k.toNat : Nat)) 9218868437227405312 := by
  have hl : (lenN n : Int) = (n.log2 : Int) + 1 := by unfold lenN; rw [if_neg hn]; rfl
  have hlast : lastP Ieee.double n e = e + k := by
    unfold lastP
    have h2 : (Ieee.double.fractionBits : Int) = 52 := rfl
    rw [dLP, h2]; omega
  unfold rungOf kept
  rw [if_neg hn, hlast, dLP, dBI, dIR, Nat.shiftLeft_eq, show e - (e + k) = -k by omega, show e + k - e = k by omega]
  have hpos : 0 ≤ e + k - -1074 := by omega
  obtain ⟨t, ht⟩ := Int.eq_ofNat_of_zero_le hpos
  rw [ht, Int.toNat_natCast, show e + k + 1074 = (t : Int) by omega]
  generalize rne (n * 2 ^ (-k).toNat) k.toNat = r
  clear ht hpos hlast hk hl hn
  omega

/-- what the code answers, five ways -/
theorem five {s T m R I x E1 E2 : Int} (hs : s = 0 ∨ s = 9223372036854775808) (hI : I = s + 9218868437227405312) (hm : 0 ≤ m ∧ m ≤ 9007199254740992) (hT : 0 ≤ T) (hlow : m < 4503599627370496 → T = 0)
    (hR : R = min (T * 4503599627370496 + m) 9218868437227405312) (hx : x = m) (e1 : E1 = T + 2) (e2 : E2 = T + 1) :
    (x = 9007199254740992 → 2047 ≤ E1 → I = s + R) ∧
    (x = 9007199254740992 → E1 < 2047 → bitI .or .u64 (bitI .or .u64 s (IntKind.u64.wrap (IntKind.u64.wrap E1 * 4503599627370496))) (x / 2 % 4503599627370496) = s + R) ∧
    (¬ x = 9007199254740992 → x < 4503599627370496 → bitI .or .u64 s x = s + R) ∧
    (¬ x = 9007199254740992 → 4503599627370496 ≤ x → 2047 ≤ E2 → I = s + R) ∧
    (¬ x = 9007199254740992 → 4503599627370496 ≤ x → E2 < 2047 → bitI .or .u64 (bitI .or .u64 s (IntKind.u64.wrap (IntKind.u64.wrap E2 * 4503599627370496))) (x % 4503599627370496) = s + R) := by
  subst hx hI e1 e2 hR
  obtain ⟨f1, f2, f3, f4, f5⟩ := finish hs hm hT hlow
  exact ⟨f1, f2, fun _ h => f3 h, fun _ h => f4 h, fun h1 h2 h3 => f5 h2 h1 h3⟩
end Go.Sx.Ref

/- The reference's round, case A0, in numbers. No condition. -/
namespace Go.Proofs.Ytnodelimomljbaa.PlainRndA0
open Go Go.Sx Go.Sx.Flt Go.Sx.Ref Go.Proofs.Ytnodelimomljbaa.RunRndA0
set_option linter.unusedSimpArgs false
set_option linter.unusedVariables false
set_option maxHeartbeats 1000000 in
theorem plain (u : Nat → Int) (hk : KindOk u 0 rndA0.sp.ks) (hp : pcOk ⟨u, fnG⟩ rndA0.sp.pre) : Keeps ⟨u, fnG⟩ rndA0.sp.res rndA0R := by
  have h1 : 0 ≤ u 1 ∧ u 1 ≤ 18446744073709551615 := of_kind hk.2.1
  have h2 : 0 ≤ u 2 ∧ u 2 ≤ 18446744073709551615 := of_kind hk.2.2.1
  obtain ⟨n, hn⟩ : ∃ n : Nat, u 1 * 18446744073709551616 + u 2 = n := ⟨(u 1 * 18446744073709551616 + u 2).toNat, by omega⟩
  obtain ⟨K, hK⟩ : ∃ K, -1074 - u 3 = K := ⟨_, rfl⟩
  obtain ⟨R, hR⟩ : ∃ R, fnG 4 n (u 3) 0 = R := ⟨_, rfl⟩
  have hL : fnG 0 n 0 0 = (lenN n : Int) := by simp only [fnG, Int.toNat_natCast]
  have q0 := hp _ (List.mem_cons_self)
  have q1 := hp _ (List.mem_cons_of_mem _ List.mem_cons_self)
  simp only [byA, byB, preA, lenE, f1, nn, w64, v, bi, E.den, Bi.den, b2i_ne, decide_eq_true_eq, hn, hL] at q0 q1
  have q0 : -1074 - u 3 < 0 := by first | exact of_decide_eq_true q0 | exact q0
  have q1 : (lenN n : Int) + -53 < -1074 - u 3 := by first | exact of_decide_eq_true q1 | exact q1
  have hT : 0 ≤ u 3 + K + 1074 := by omega
  have h0 : n = 0 → R = 0 := fun h => by rw [← hR]; simp only [fnG, Int.toNat_natCast]; rw [h]; unfold rungOf; simp
  have hn53 : n < 9007199254740992 := by
    have h := lenN_lt n
    have e : (2 : Nat) ^ lenN n ≤ 2 ^ 53 := Nat.pow_le_pow_right (by decide) (by omega)
    have e2 : (2 : Nat) ^ 53 = 9007199254740992 := by decide
    omega
  obtain ⟨k, hk2⟩ : ∃ k : Nat, (0 - K).toNat = k := ⟨_, rfl⟩
  obtain ⟨q, hq⟩ : ∃ q : Nat, q = n * 2 ^ k := ⟨_, rfl⟩
  have F3 : fnG 3 q K 0 = lost q K := by simp only [fnG, Int.toNat_natCast]
  have core : ¬ bitI .or .u64 (u 1) (u 2) = 0 → ∃ M : Nat, fnG 2 q K 0 = (M : Int) ∧ M < 9007199254740992 ∧ (M < 4503599627370496 → u 3 + K + 1074 = 0) ∧
      R = min ((u 3 + K + 1074) * 4503599627370496 + ((M : Int) + (if lost q K = 1 ∨ (lost q K = 0 ∧ M % 2 = 1) then 1 else 0))) 9218868437227405312 := by
    intro hne
    have hn0 : n ≠ 0 := fun h => hne ((or_null h1 h2).2 (by omega))
    have hr := rung_double hn0 (u 3) K (by omega)
    have hR' : R = ((rungOf Ieee.double n (u 3) : Nat) : Int) := by rw [← hR]; simp only [fnG, Int.toNat_natCast]
    rw [hr] at hR'
    rw [hR']
    have e1 : (-K).toNat = k := by omega
    have e2 : K.toNat = 0 := by omega
    have hlq : lost q K = 2 := by unfold lost; rw [if_pos (by omega)]
    refine ⟨q, by simp only [fnG, Int.toNat_natCast, e2, Nat.pow_zero, Nat.div_one], ?_, ?_, ?_⟩
    · rw [hq]
      have h := lenN_lt n
      have h3 : n * 2 ^ k < 2 ^ lenN n * 2 ^ k := Nat.mul_lt_mul_of_pos_right h (Nat.two_pow_pos k)
      rw [← Nat.pow_add] at h3
      have e : (2 : Nat) ^ (lenN n + k) ≤ 2 ^ 53 := Nat.pow_le_pow_right (by decide) (by omega)
      have e3 : (2 : Nat) ^ 53 = 9007199254740992 := by decide
      omega
    · intro hlo
      omega
    · rw [e1, e2, ← hq, rne_zero, hlq, if_neg (by omega), Int.add_zero]
  have hS : ∀ hne : ¬ bitI .or .u64 (u 1) (u 2) = 0, 0 + IntKind.u64.wrap (u 2 * 2 ^ (min (0 - K).toNat IntKind.u64.bits)) = (q : Int) := fun hne => by
    obtain ⟨M, f2, hi, _, _⟩ := core hne
    clear core
    have e2 : K.toNat = 0 := by omega
    simp only [fnG, Int.toNat_natCast, e2, Nat.pow_zero, Nat.div_one] at f2
    have hu : u 2 = n := by omega
    rw [hk2, hu, show IntKind.u64.bits = 64 from rfl, Nat.min_eq_left (by omega), u64_wr]
    have : ((n : Int) * 2 ^ k) = ((n * 2 ^ k : Nat) : Int) := by rw [Int.natCast_mul, Int.natCast_pow]; rfl
    rw [this, ← hq]
    omega
  by_cases hor : bitI .or .u64 (u 1) (u 2) = 0
  · simp only [rndA0, rndOf, rndD, rndA0R, Keeps, chain, unOne, List.length, SameL, f2, nn, w64, v, bi, un, E.prop, E.den, Bi.den, Un.den, hn, Nat.beq, hK, hR, hor]
    have hz2 := (or_null h1 h2).1 hor
    have hR0 := h0 (by omega)
    by_cases hz : u 0 = 0 <;> simp [hz, b2i, hR0]
  have hS := hS hor
  by_cases hz : u 0 = 0
  · have c1 : (b2i (b2i (u 0 == 0) == 0) ≠ 0) = False := by simp [hz, b2i]
    have c2 : (u 0 ≠ 0) = False := by simp [hz]
    simp only [rndA0, rndOf, rndD, rndA0R, Keeps, chain, unOne, List.length, SameL, f2, nn, w64, v, bi, un, E.prop, E.den, Bi.den, Un.den, hn, Nat.beq, c1, c2, if_false, if_true, hK, hR, hS]
    refine ⟨?_, ?_, ?_, ?_, ?_, ?_, ?_, ?_, ?_, ?_, ?_, ?_, ?_, ?_, ?_, ?_, ?_, ?_, ?_, ?_, ?_, trivial⟩
    · intro a1 a2 a3 a4 a5
      have hz2 := (or_null h1 h2).1 a5
      exact ⟨trivial, by rw [h0 (by omega)]; rfl, trivial⟩
    · intro a1 a2 a3 a4 a5 a6 a7 a8 a9 b0 b1
      obtain ⟨M, f2, hi, lo, hr⟩ := core a5
      clear core
      have hu5 : u 5 = M := by rw [a7, f2, u64_wr]; omega
      have hc : lost q K = 1 := by rw [← F3, ← a8, a9]
      rw [if_pos (.inl hc)] at hr
      have hx : IntKind.u64.wrap (u 5 + 1) = (M : Int) + 1 := by rw [hu5, u64_wr]; omega
      obtain ⟨g1, g2, g3, g4, g5⟩ := five (s := 0) (I := 9218868437227405312) (by decide) (by decide) (by omega) hT (fun h => lo (by omega)) hr hx (E1 := u 3 + K + 1076) (by omega) (E2 := u 3 + K + 1075) (by omega)
      exact ⟨trivial, g1 b0 b1, trivial⟩
    · intro a1 a2 a3 a4 a5 a6 a7 a8 a9 b0 b1
      obtain ⟨M, f2, hi, lo, hr⟩ := core a5
      clear core
      have hu5 : u 5 = M := by rw [a7, f2, u64_wr]; omega
      have hc : lost q K = 1 := by rw [← F3, ← a8, a9]
      rw [if_pos (.inl hc)] at hr
      have hx : IntKind.u64.wrap (u 5 + 1) = (M : Int) + 1 := by rw [hu5, u64_wr]; omega
      obtain ⟨g1, g2, g3, g4, g5⟩ := five (s := 0) (I := 9218868437227405312) (by decide) (by decide) (by omega) hT (fun h => lo (by omega)) hr hx (E1 := u 3 + K + 1076) (by omega) (E2 := u 3 + K + 1075) (by omega)
      exact ⟨trivial, g2 b0 b1, trivial⟩
    · intro a1 a2 a3 a4 a5 a6 a7 a8 a9 b0 b1
      obtain ⟨M, f2, hi, lo, hr⟩ := core a5
      clear core
      have hu5 : u 5 = M := by rw [a7, f2, u64_wr]; omega
      have hc : lost q K = 1 := by rw [← F3, ← a8, a9]
      rw [if_pos (.inl hc)] at hr
      have hx : IntKind.u64.wrap (u 5 + 1) = (M : Int) + 1 := by rw [hu5, u64_wr]; omega
      obtain ⟨g1, g2, g3, g4, g5⟩ := five (s := 0) (I := 9218868437227405312) (by decide) (by decide) (by omega) hT (fun h => lo (by omega)) hr hx (E1 := u 3 + K + 1076) (by omega) (E2 := u 3 + K + 1075) (by omega)
      exact ⟨trivial, g3 b0 b1, trivial⟩
    · intro a1 a2 a3 a4 a5 a6 a7 a8 a9 b0 b1 b2
      obtain ⟨M, f2, hi, lo, hr⟩ := core a5
      clear core
      have hu5 : u 5 = M := by rw [a7, f2, u64_wr]; omega
      have hc : lost q K = 1 := by rw [← F3, ← a8, a9]
      rw [if_pos (.inl hc)] at hr
      have hx : IntKind.u64.wrap (u 5 + 1) = (M : Int) + 1 := by rw [hu5, u64_wr]; omega
      obtain ⟨g1, g2, g3, g4, g5⟩ := five (s := 0) (I := 9218868437227405312) (by decide) (by decide) (by omega) hT (fun h => lo (by omega)) hr hx (E1 := u 3 + K + 1076) (by omega) (E2 := u 3 + K + 1075) (by omega)
      exact ⟨trivial, g4 b0 b1 b2, trivial⟩
    · intro a1 a2 a3 a4 a5 a6 a7 a8 a9 b0 b1 b2
      obtain ⟨M, f2, hi, lo, hr⟩ := core a5
      clear core
      have hu5 : u 5 = M := by rw [a7, f2, u64_wr]; omega
      have hc : lost q K = 1 := by rw [← F3, ← a8, a9]
      rw [if_pos (.inl hc)] at hr
      have hx : IntKind.u64.wrap (u 5 + 1) = (M : Int) + 1 := by rw [hu5, u64_wr]; omega
      obtain ⟨g1, g2, g3, g4, g5⟩ := five (s := 0) (I := 9218868437227405312) (by decide) (by decide) (by omega) hT (fun h => lo (by omega)) hr hx (E1 := u 3 + K + 1076) (by omega) (E2 := u 3 + K + 1075) (by omega)
      exact ⟨trivial, g5 b0 b1 b2, trivial⟩
    · intro a1 a2 a3 a4 a5 a6 a7 a8 a9 a10 a11 b0 b1
      obtain ⟨M, f2, hi, lo, hr⟩ := core a5
      clear core
      have hu5 : u 5 = M := by rw [a7, f2, u64_wr]; omega
      have hc : lost q K = 0 := by rw [← F3, ← a8, a10]
      rw [if_pos (.inr ⟨hc, by rw [hu5] at a11; omega⟩)] at hr
      have hx : IntKind.u64.wrap (u 5 + 1) = (M : Int) + 1 := by rw [hu5, u64_wr]; omega
      obtain ⟨g1, g2, g3, g4, g5⟩ := five (s := 0) (I := 9218868437227405312) (by decide) (by decide) (by omega) hT (fun h => lo (by omega)) hr hx (E1 := u 3 + K + 1076) (by omega) (E2 := u 3 + K + 1075) (by omega)
      exact ⟨trivial, g1 b0 b1, trivial⟩
    · intro a1 a2 a3 a4 a5 a6 a7 a8 a9 a10 a11 b0 b1
      obtain ⟨M, f2, hi, lo, hr⟩ := core a5
      clear core
      have hu5 : u 5 = M := by rw [a7, f2, u64_wr]; omega
      have hc : lost q K = 0 := by rw [← F3, ← a8, a10]
      rw [if_pos (.inr ⟨hc, by rw [hu5] at a11; omega⟩)] at hr
      have hx : IntKind.u64.wrap (u 5 + 1) = (M : Int) + 1 := by rw [hu5, u64_wr]; omega
      obtain ⟨g1, g2, g3, g4, g5⟩ := five (s := 0) (I := 9218868437227405312) (by decide) (by decide) (by omega) hT (fun h => lo (by omega)) hr hx (E1 := u 3 + K + 1076) (by omega) (E2 := u 3 + K + 1075) (by omega)
      exact ⟨trivial, g2 b0 b1, trivial⟩
    · intro a1 a2 a3 a4 a5 a6 a7 a8 a9 a10 a11 b0 b1
      obtain ⟨M, f2, hi, lo, hr⟩ := core a5
      clear core
      have hu5 : u 5 = M := by rw [a7, f2, u64_wr]; omega
      have hc : lost q K = 0 := by rw [← F3, ← a8, a10]
      rw [if_pos (.inr ⟨hc, by rw [hu5] at a11; omega⟩)] at hr
      have hx : IntKind.u64.wrap (u 5 + 1) = (M : Int) + 1 := by rw [hu5, u64_wr]; omega
      obtain ⟨g1, g2, g3, g4, g5⟩ := five (s := 0) (I := 9218868437227405312) (by decide) (by decide) (by omega) hT (fun h => lo (by omega)) hr hx (E1 := u 3 + K + 1076) (by omega) (E2 := u 3 + K + 1075) (by omega)
      exact ⟨trivial, g3 b0 b1, trivial⟩
    · intro a1 a2 a3 a4 a5 a6 a7 a8 a9 a10 a11 b0 b1 b2
      obtain ⟨M, f2, hi, lo, hr⟩ := core a5
      clear core
      have hu5 : u 5 = M := by rw [a7, f2, u64_wr]; omega
      have hc : lost q K = 0 := by rw [← F3, ← a8, a10]
      rw [if_pos (.inr ⟨hc, by rw [hu5] at a11; omega⟩)] at hr
      have hx : IntKind.u64.wrap (u 5 + 1) = (M : Int) + 1 := by rw [hu5, u64_wr]; omega
      obtain ⟨g1, g2, g3, g4, g5⟩ := five (s := 0) (I := 9218868437227405312) (by decide) (by decide) (by omega) hT (fun h => lo (by omega)) hr hx (E1 := u 3 + K + 1076) (by omega) (E2 := u 3 + K + 1075) (by omega)
      exact ⟨trivial, g4 b0 b1 b2, trivial⟩
    · intro a1 a2 a3 a4 a5 a6 a7 a8 a9 a10 a11 b0 b1 b2
      obtain ⟨M, f2, hi, lo, hr⟩ := core a5
      clear core
      have hu5 : u 5 = M := by rw [a7, f2, u64_wr]; omega
      have hc : lost q K = 0 := by rw [← F3, ← a8, a10]
      rw [if_pos (.inr ⟨hc, by rw [hu5] at a11; omega⟩)] at hr
      have hx : IntKind.u64.wrap (u 5 + 1) = (M : Int) + 1 := by rw [hu5, u64_wr]; omega
      obtain ⟨g1, g2, g3, g4, g5⟩ := five (s := 0) (I := 9218868437227405312) (by decide) (by decide) (by omega) hT (fun h => lo (by omega)) hr hx (E1 := u 3 + K + 1076) (by omega) (E2 := u 3 + K + 1075) (by omega)
      exact ⟨trivial, g5 b0 b1 b2, trivial⟩
    · intro a1 a2 a3 a4 a5 a6 a7 a8 a9 a10 a11 b0 b1
      obtain ⟨M, f2, hi, lo, hr⟩ := core a5
      clear core
      have hu5 : u 5 = M := by rw [a7, f2, u64_wr]; omega
      have hc : lost q K = 0 := by rw [← F3, ← a8, a10]
      rw [if_neg (by rw [hu5] at a11; omega)] at hr
      have hx : u 5 = (M : Int) + 0 := by rw [hu5]; omega
      obtain ⟨g1, g2, g3, g4, g5⟩ := five (s := 0) (I := 9218868437227405312) (by decide) (by decide) (by omega) hT (fun h => lo (by omega)) hr hx (E1 := u 3 + K + 1076) (by omega) (E2 := u 3 + K + 1075) (by omega)
      exact ⟨trivial, g1 b0 b1, trivial⟩
    · intro a1 a2 a3 a4 a5 a6 a7 a8 a9 a10 a11 b0 b1
      obtain ⟨M, f2, hi, lo, hr⟩ := core a5
      clear core
      have hu5 : u 5 = M := by rw [a7, f2, u64_wr]; omega
      have hc : lost q K = 0 := by rw [← F3, ← a8, a10]
      rw [if_neg (by rw [hu5] at a11; omega)] at hr
      have hx : u 5 = (M : Int) + 0 := by rw [hu5]; omega
      obtain ⟨g1, g2, g3, g4, g5⟩ := five (s := 0) (I := 9218868437227405312) (by decide) (by decide) (by omega) hT (fun h => lo (by omega)) hr hx (E1 := u 3 + K + 1076) (by omega) (E2 := u 3 + K + 1075) (by omega)
      exact ⟨trivial, g2 b0 b1, trivial⟩
    · intro a1 a2 a3 a4 a5 a6 a7 a8 a9 a10 a11 b0 b1
      obtain ⟨M, f2, hi, lo, hr⟩ := core a5
      clear core
      have hu5 : u 5 = M := by rw [a7, f2, u64_wr]; omega
      have hc : lost q K = 0 := by rw [← F3, ← a8, a10]
      rw [if_neg (by rw [hu5] at a11; omega)] at hr
      have hx : u 5 = (M : Int) + 0 := by rw [hu5]; omega
      obtain ⟨g1, g2, g3, g4, g5⟩ := five (s := 0) (I := 9218868437227405312) (by decide) (by decide) (by omega) hT (fun h => lo (by omega)) hr hx (E1 := u 3 + K + 1076) (by omega) (E2 := u 3 + K + 1075) (by omega)
      exact ⟨trivial, g3 b0 b1, trivial⟩
    · intro a1 a2 a3 a4 a5 a6 a7 a8 a9 a10 a11 b0 b1 b2
      obtain ⟨M, f2, hi, lo, hr⟩ := core a5
      clear core
      have hu5 : u 5 = M := by rw [a7, f2, u64_wr]; omega
      have hc : lost q K = 0 := by rw [← F3, ← a8, a10]
      rw [if_neg (by rw [hu5] at a11; omega)] at hr
      have hx : u 5 = (M : Int) + 0 := by rw [hu5]; omega
      obtain ⟨g1, g2, g3, g4, g5⟩ := five (s := 0) (I := 9218868437227405312) (by decide) (by decide) (by omega) hT (fun h => lo (by omega)) hr hx (E1 := u 3 + K + 1076) (by omega) (E2 := u 3 + K + 1075) (by omega)
      exact ⟨trivial, g4 b0 b1 b2, trivial⟩
    · intro a1 a2 a3 a4 a5 a6 a7 a8 a9 a10 a11 b0 b1 b2
      obtain ⟨M, f2, hi, lo, hr⟩ := core a5
      clear core
      have hu5 : u 5 = M := by rw [a7, f2, u64_wr]; omega
      have hc : lost q K = 0 := by rw [← F3, ← a8, a10]
      rw [if_neg (by rw [hu5] at a11; omega)] at hr
      have hx : u 5 = (M : Int) + 0 := by rw [hu5]; omega
      obtain ⟨g1, g2, g3, g4, g5⟩ := five (s := 0) (I := 9218868437227405312) (by decide) (by decide) (by omega) hT (fun h => lo (by omega)) hr hx (E1 := u 3 + K + 1076) (by omega) (E2 := u 3 + K + 1075) (by omega)
      exact ⟨trivial, g5 b0 b1 b2, trivial⟩
    · intro a1 a2 a3 a4 a5 a6 a7 a8 a9 a10 b0 b1
      obtain ⟨M, f2, hi, lo, hr⟩ := core a5
      clear core
      have hu5 : u 5 = M := by rw [a7, f2, u64_wr]; omega
      have hc : ¬ lost q K = 0 ∧ ¬ lost q K = 1 := by rw [← F3, ← a8]; exact ⟨a10, a9⟩
      rw [if_neg (by omega)] at hr
      have hx : u 5 = (M : Int) + 0 := by rw [hu5]; omega
      obtain ⟨g1, g2, g3, g4, g5⟩ := five (s := 0) (I := 9218868437227405312) (by decide) (by decide) (by omega) hT (fun h => lo (by omega)) hr hx (E1 := u 3 + K + 1076) (by omega) (E2 := u 3 + K + 1075) (by omega)
      exact ⟨trivial, g1 b0 b1, trivial⟩
    · intro a1 a2 a3 a4 a5 a6 a7 a8 a9 a10 b0 b1
      obtain ⟨M, f2, hi, lo, hr⟩ := core a5
      clear core
      have hu5 : u 5 = M := by rw [a7, f2, u64_wr]; omega
      have hc : ¬ lost q K = 0 ∧ ¬ lost q K = 1 := by rw [← F3, ← a8]; exact ⟨a10, a9⟩
      rw [if_neg (by omega)] at hr
      have hx : u 5 = (M : Int) + 0 := by rw [hu5]; omega
      obtain ⟨g1, g2, g3, g4, g5⟩ := five (s := 0) (I := 9218868437227405312) (by decide) (by decide) (by omega) hT (fun h => lo (by omega)) hr hx (E1 := u 3 + K + 1076) (by omega) (E2 := u 3 + K + 1075) (by omega)
      exact ⟨trivial, g2 b0 b1, trivial⟩
    · intro a1 a2 a3 a4 a5 a6 a7 a8 a9 a10 b0 b1
      obtain ⟨M, f2, hi, lo, hr⟩ := core a5
      clear core
      have hu5 : u 5 = M := by rw [a7, f2, u64_wr]; omega
      have hc : ¬ lost q K = 0 ∧ ¬ lost q K = 1 := by rw [← F3, ← a8]; exact ⟨a10, a9⟩
      rw [if_neg (by omega)] at hr
      have hx : u 5 = (M : Int) + 0 := by rw [hu5]; omega
      obtain ⟨g1, g2, g3, g4, g5⟩ := five (s := 0) (I := 9218868437227405312) (by decide) (by decide) (by omega) hT (fun h => lo (by omega)) hr hx (E1 := u 3 + K + 1076) (by omega) (E2 := u 3 + K + 1075) (by omega)
      exact ⟨trivial, g3 b0 b1, trivial⟩
    · intro a1 a2 a3 a4 a5 a6 a7 a8 a9 a10 b0 b1 b2
      obtain ⟨M, f2, hi, lo, hr⟩ := core a5
      clear core
      have hu5 : u 5 = M := by rw [a7, f2, u64_wr]; omega
      have hc : ¬ lost q K = 0 ∧ ¬ lost q K = 1 := by rw [← F3, ← a8]; exact ⟨a10, a9⟩
      rw [if_neg (by omega)] at hr
      have hx : u 5 = (M : Int) + 0 := by rw [hu5]; omega
      obtain ⟨g1, g2, g3, g4, g5⟩ := five (s := 0) (I := 9218868437227405312) (by decide) (by decide) (by omega) hT (fun h => lo (by omega)) hr hx (E1 := u 3 + K + 1076) (by omega) (E2 := u 3 + K + 1075) (by omega)
      exact ⟨trivial, g4 b0 b1 b2, trivial⟩
    · intro a1 a2 a3 a4 a5 a6 a7 a8 a9 a10 b0 b1 b2
      obtain ⟨M, f2, hi, lo, hr⟩ := core a5
      clear core
      have hu5 : u 5 = M := by rw [a7, f2, u64_wr]; omega
      have hc : ¬ lost q K = 0 ∧ ¬ lost q K = 1 := by rw [← F3, ← a8]; exact ⟨a10, a9⟩
      rw [if_neg (by omega)] at hr
      have hx : u 5 = (M : Int) + 0 := by rw [hu5]; omega
      obtain ⟨g1, g2, g3, g4, g5⟩ := five (s := 0) (I := 9218868437227405312) (by decide) (by decide) (by omega) hT (fun h => lo (by omega)) hr hx (E1 := u 3 + K + 1076) (by omega) (E2 := u 3 + K + 1075) (by omega)
      exact ⟨trivial, g5 b0 b1 b2, trivial⟩
  · have c1 : (b2i (b2i (u 0 == 0) == 0) ≠ 0) = True := by simp [hz, b2i]
    have c2 : (u 0 ≠ 0) = True := by simp [hz]
    simp only [rndA0, rndOf, rndD, rndA0R, Keeps, chain, unOne, List.length, SameL, f2, nn, w64, v, bi, un, E.prop, E.den, Bi.den, Un.den, hn, Nat.beq, c1, c2, if_false, if_true, hK, hR, hS]
    refine ⟨?_, ?_, ?_, ?_, ?_, ?_, ?_, ?_, ?_, ?_, ?_, ?_, ?_, ?_, ?_, ?_, ?_, ?_, ?_, ?_, ?_, trivial⟩
    · intro a1 a2 a3 a4 a5
      have hz2 := (or_null h1 h2).1 a5
      exact ⟨trivial, by rw [h0 (by omega)]; rfl, trivial⟩
    · intro a1 a2 a3 a4 a5 a6 a7 a8 a9 b0 b1
      obtain ⟨M, f2, hi, lo, hr⟩ := core a5
      clear core
      have hu5 : u 5 = M := by rw [a7, f2, u64_wr]; omega
      have hc : lost q K = 1 := by rw [← F3, ← a8, a9]
      rw [if_pos (.inl hc)] at hr
      have hx : IntKind.u64.wrap (u 5 + 1) = (M : Int) + 1 := by rw [hu5, u64_wr]; omega
      obtain ⟨g1, g2, g3, g4, g5⟩ := five (s := 9223372036854775808) (I := 18442240474082181120) (by decide) (by decide) (by omega) hT (fun h => lo (by omega)) hr hx (E1 := u 3 + K + 1076) (by omega) (E2 := u 3 + K + 1075) (by omega)
      exact ⟨trivial, g1 b0 b1, trivial⟩
    · intro a1 a2 a3 a4 a5 a6 a7 a8 a9 b0 b1
      obtain ⟨M, f2, hi, lo, hr⟩ := core a5
      clear core
      have hu5 : u 5 = M := by rw [a7, f2, u64_wr]; omega
      have hc : lost q K = 1 := by rw [← F3, ← a8, a9]
      rw [if_pos (.inl hc)] at hr
      have hx : IntKind.u64.wrap (u 5 + 1) = (M : Int) + 1 := by rw [hu5, u64_wr]; omega
      obtain ⟨g1, g2, g3, g4, g5⟩ := five (s := 9223372036854775808) (I := 18442240474082181120) (by decide) (by decide) (by omega) hT (fun h => lo (by omega)) hr hx (E1 := u 3 + K + 1076) (by omega) (E2 := u 3 + K + 1075) (by omega)
      exact ⟨trivial, g2 b0 b1, trivial⟩
    · intro a1 a2 a3 a4 a5 a6 a7 a8 a9 b0 b1
      obtain ⟨M, f2, hi, lo, hr⟩ := core a5
      clear core
      have hu5 : u 5 = M := by rw [a7, f2, u64_wr]; omega
      have hc : lost q K = 1 := by rw [← F3, ← a8, a9]
      rw [if_pos (.inl hc)] at hr
      have hx : IntKind.u64.wrap (u 5 + 1) = (M : Int) + 1 := by rw [hu5, u64_wr]; omega
      obtain ⟨g1, g2, g3, g4, g5⟩ := five (s := 9223372036854775808) (I := 18442240474082181120) (by decide) (by decide) (by omega) hT (fun h => lo (by omega)) hr hx (E1 := u 3 + K + 1076) (by omega) (E2 := u 3 + K + 1075) (by omega)
      exact ⟨trivial, g3 b0 b1, trivial⟩
    · intro a1 a2 a3 a4 a5 a6 a7 a8 a9 b0 b1 b2
      obtain ⟨M, f2, hi, lo, hr⟩ := core a5
      clear core
      have hu5 : u 5 = M := by rw [a7, f2, u64_wr]; omega
      have hc : lost q K = 1 := by rw [← F3, ← a8, a9]
      rw [if_pos (.inl hc)] at hr
      have hx : IntKind.u64.wrap (u 5 + 1) = (M : Int) + 1 := by rw [hu5, u64_wr]; omega
      obtain ⟨g1, g2, g3, g4, g5⟩ := five (s := 9223372036854775808) (I := 18442240474082181120) (by decide) (by decide) (by omega) hT (fun h => lo (by omega)) hr hx (E1 := u 3 + K + 1076) (by omega) (E2 := u 3 + K + 1075) (by omega)
      exact ⟨trivial, g4 b0 b1 b2, trivial⟩
    · intro a1 a2 a3 a4 a5 a6 a7 a8 a9 b0 b1 b2
      obtain ⟨M, f2, hi, lo, hr⟩ := core a5
      clear core
      have hu5 : u 5 = M := by rw [a7, f2, u64_wr]; omega
      have hc : lost q K = 1 := by rw [← F3, ← a8, a9]
      rw [if_pos (.inl hc)] at hr
      have hx : IntKind.u64.wrap (u 5 + 1) = (M : Int) + 1 := by rw [hu5, u64_wr]; omega
      obtain ⟨g1, g2, g3, g4, g5⟩ := five (s := 9223372036854775808) (I := 18442240474082181120) (by decide) (by decide) (by omega) hT (fun h => lo (by omega)) hr hx (E1 := u 3 + K + 1076) (by omega) (E2 := u 3 + K + 1075) (by omega)
      exact ⟨trivial, g5 b0 b1 b2, trivial⟩
    · intro a1 a2 a3 a4 a5 a6 a7 a8 a9 a10 a11 b0 b1
      obtain ⟨M, f2, hi, lo, hr⟩ := core a5
      clear core
      have hu5 : u 5 = M := by rw [a7, f2, u64_wr]; omega
      have hc : lost q K = 0 := by rw [← F3, ← a8, a10]
      rw [if_pos (.inr ⟨hc, by rw [hu5] at a11; omega⟩)] at hr
      have hx : IntKind.u64.wrap (u 5 + 1) = (M : Int) + 1 := by rw [hu5, u64_wr]; omega
      obtain ⟨g1, g2, g3, g4, g5⟩ := five (s := 9223372036854775808) (I := 18442240474082181120) (by decide) (by decide) (by omega) hT (fun h => lo (by omega)) hr hx (E1 := u 3 + K + 1076) (by omega) (E2 := u 3 + K + 1075) (by omega)
      exact ⟨trivial, g1 b0 b1, trivial⟩
    · intro a1 a2 a3 a4 a5 a6 a7 a8 a9 a10 a11 b0 b1
      obtain ⟨M, f2, hi, lo, hr⟩ := core a5
      clear core
      have hu5 : u 5 = M := by rw [a7, f2, u64_wr]; omega
      have hc : lost q K = 0 := by rw [← F3, ← a8, a10]
      rw [if_pos (.inr ⟨hc, by rw [hu5] at a11; omega⟩)] at hr
      have hx : IntKind.u64.wrap (u 5 + 1) = (M : Int) + 1 := by rw [hu5, u64_wr]; omega
      obtain ⟨g1, g2, g3, g4, g5⟩ := five (s := 9223372036854775808) (I := 18442240474082181120) (by decide) (by decide) (by omega) hT (fun h => lo (by omega)) hr hx (E1 := u 3 + K + 1076) (by omega) (E2 := u 3 + K + 1075) (by omega)
      exact ⟨trivial, g2 b0 b1, trivial⟩
    · intro a1 a2 a3 a4 a5 a6 a7 a8 a9 a10 a11 b0 b1
      obtain ⟨M, f2, hi, lo, hr⟩ := core a5
      clear core
      have hu5 : u 5 = M := by rw [a7, f2, u64_wr]; omega
      have hc : lost q K = 0 := by rw [← F3, ← a8, a10]
      rw [if_pos (.inr ⟨hc, by rw [hu5] at a11; omega⟩)] at hr
      have hx : IntKind.u64.wrap (u 5 + 1) = (M : Int) + 1 := by rw [hu5, u64_wr]; omega
      obtain ⟨g1, g2, g3, g4, g5⟩ := five (s := 9223372036854775808) (I := 18442240474082181120) (by decide) (by decide) (by omega) hT (fun h => lo (by omega)) hr hx (E1 := u 3 + K + 1076) (by omega) (E2 := u 3 + K + 1075) (by omega)
      exact ⟨trivial, g3 b0 b1, trivial⟩
    · intro a1 a2 a3 a4 a5 a6 a7 a8 a9 a10 a11 b0 b1 b2
      obtain ⟨M, f2, hi, lo, hr⟩ := core a5
      clear core
      have hu5 : u 5 = M := by rw [a7, f2, u64_wr]; omega
      have hc : lost q K = 0 := by rw [← F3, ← a8, a10]
      rw [if_pos (.inr ⟨hc, by rw [hu5] at a11; omega⟩)] at hr
      have hx : IntKind.u64.wrap (u 5 + 1) = (M : Int) + 1 := by rw [hu5, u64_wr]; omega
      obtain ⟨g1, g2, g3, g4, g5⟩ := five (s := 9223372036854775808) (I := 18442240474082181120) (by decide) (by decide) (by omega) hT (fun h => lo (by omega)) hr hx (E1 := u 3 + K + 1076) (by omega) (E2 := u 3 + K + 1075) (by omega)
      exact ⟨trivial, g4 b0 b1 b2, trivial⟩
    · intro a1 a2 a3 a4 a5 a6 a7 a8 a9 a10 a11 b0 b1 b2
      obtain ⟨M, f2, hi, lo, hr⟩ := core a5
      clear core
      have hu5 : u 5 = M := by rw [a7, f2, u64_wr]; omega
      have hc : lost q K = 0 := by rw [← F3, ← a8, a10]
      rw [if_pos (.inr ⟨hc, by rw [hu5] at a11; omega⟩)] at hr
      have hx : IntKind.u64.wrap (u 5 + 1) = (M : Int) + 1 := by rw [hu5, u64_wr]; omega
      obtain ⟨g1, g2, g3, g4, g5⟩ := five (s := 9223372036854775808) (I := 18442240474082181120) (by decide) (by decide) (by omega) hT (fun h => lo (by omega)) hr hx (E1 := u 3 + K + 1076) (by omega) (E2 := u 3 + K + 1075) (by omega)
      exact ⟨trivial, g5 b0 b1 b2, trivial⟩
    · intro a1 a2 a3 a4 a5 a6 a7 a8 a9 a10 a11 b0 b1
      obtain ⟨M, f2, hi, lo, hr⟩ := core a5
      clear core
      have hu5 : u 5 = M := by rw [a7, f2, u64_wr]; omega
      have hc : lost q K = 0 := by rw [← F3, ← a8, a10]
      rw [if_neg (by rw [hu5] at a11; omega)] at hr
      have hx : u 5 = (M : Int) + 0 := by rw [hu5]; omega
      obtain ⟨g1, g2, g3, g4, g5⟩ := five (s := 9223372036854775808) (I := 18442240474082181120) (by decide) (by decide) (by omega) hT (fun h => lo (by omega)) hr hx (E1 := u 3 + K + 1076) (by omega) (E2 := u 3 + K + 1075) (by omega)
      exact ⟨trivial, g1 b0 b1, trivial⟩
    · intro a1 a2 a3 a4 a5 a6 a7 a8 a9 a10 a11 b0 b1
      obtain ⟨M, f2, hi, lo, hr⟩ := core a5
      clear core
      have hu5 : u 5 = M := by rw [a7, f2, u64_wr]; omega
      have hc : lost q K = 0 := by rw [← F3, ← a8, a10]
      rw [if_neg (by rw [hu5] at a11; omega)] at hr
      have hx : u 5 = (M : Int) + 0 := by rw [hu5]; omega
      obtain ⟨g1, g2, g3, g4, g5⟩ := five (s := 9223372036854775808) (I := 18442240474082181120) (by decide) (by decide) (by omega) hT (fun h => lo (by omega)) hr hx (E1 := u 3 + K + 1076) (by omega) (E2 := u 3 + K + 1075) (by omega)
      exact ⟨trivial, g2 b0 b1, trivial⟩
    · intro a1 a2 a3 a4 a5 a6 a7 a8 a9 a10 a11 b0 b1
      obtain ⟨M, f2, hi, lo, hr⟩ := core a5
      clear core
      have hu5 : u 5 = M := by rw [a7, f2, u64_wr]; omega
      have hc : lost q K = 0 := by rw [← F3, ← a8, a10]
      rw [if_neg (by rw [hu5] at a11; omega)] at hr
      have hx : u 5 = (M : Int) + 0 := by rw [hu5]; omega
      obtain ⟨g1, g2, g3, g4, g5⟩ := five (s := 9223372036854775808) (I := 18442240474082181120) (by decide) (by decide) (by omega) hT (fun h => lo (by omega)) hr hx (E1 := u 3 + K + 1076) (by omega) (E2 := u 3 + K + 1075) (by omega)
      exact ⟨trivial, g3 b0 b1, trivial⟩
    · intro a1 a2 a3 a4 a5 a6 a7 a8 a9 a10 a11 b0 b1 b2
      obtain ⟨M, f2, hi, lo, hr⟩ := core a5
      clear core
      have hu5 : u 5 = M := by rw [a7, f2, u64_wr]; omega
      have hc : lost q K = 0 := by rw [← F3, ← a8, a10]
      rw [if_neg (by rw [hu5] at a11; omega)] at hr
      have hx : u 5 = (M : Int) + 0 := by rw [hu5]; omega
      obtain ⟨g1, g2, g3, g4, g5⟩ := five (s := 9223372036854775808) (I := 18442240474082181120) (by decide) (by decide) (by omega) hT (fun h => lo (by omega)) hr hx (E1 := u 3 + K + 1076) (by omega) (E2 := u 3 + K + 1075) (by omega)
      exact ⟨trivial, g4 b0 b1 b2, trivial⟩
    · intro a1 a2 a3 a4 a5 a6 a7 a8 a9 a10 a11 b0 b1 b2
      obtain ⟨M, f2, hi, lo, hr⟩ := core a5
      clear core
      have hu5 : u 5 = M := by rw [a7, f2, u64_wr]; omega
      have hc : lost q K = 0 := by rw [← F3, ← a8, a10]
      rw [if_neg (by rw [hu5] at a11; omega)] at hr
      have hx : u 5 = (M : Int) + 0 := by rw [hu5]; omega
      obtain ⟨g1, g2, g3, g4, g5⟩ := five (s := 9223372036854775808) (I := 18442240474082181120) (by decide) (by decide) (by omega) hT (fun h => lo (by omega)) hr hx (E1 := u 3 + K + 1076) (by omega) (E2 := u 3 + K + 1075) (by omega)
      exact ⟨trivial, g5 b0 b1 b2, trivial⟩
    · intro a1 a2 a3 a4 a5 a6 a7 a8 a9 a10 b0 b1
      obtain ⟨M, f2, hi, lo, hr⟩ := core a5
      clear core
      have hu5 : u 5 = M := by rw [a7, f2, u64_wr]; omega
      have hc : ¬ lost q K = 0 ∧ ¬ lost q K = 1 := by rw [← F3, ← a8]; exact ⟨a10, a9⟩
      rw [if_neg (by omega)] at hr
      have hx : u 5 = (M : Int) + 0 := by rw [hu5]; omega
      obtain ⟨g1, g2, g3, g4, g5⟩ := five (s := 9223372036854775808) (I := 18442240474082181120) (by decide) (by decide) (by omega) hT (fun h => lo (by omega)) hr hx (E1 := u 3 + K + 1076) (by omega) (E2 := u 3 + K + 1075) (by omega)
      exact ⟨trivial, g1 b0 b1, trivial⟩
    · intro a1 a2 a3 a4 a5 a6 a7 a8 a9 a10 b0 b1
      obtain ⟨M, f2, hi, lo, hr⟩ := core a5
      clear core
      have hu5 : u 5 = M := by rw [a7, f2, u64_wr]; omega
      have hc : ¬ lost q K = 0 ∧ ¬ lost q K = 1 := by rw [← F3, ← a8]; exact ⟨a10, a9⟩
      rw [if_neg (by omega)] at hr
      have hx : u 5 = (M : Int) + 0 := by rw [hu5]; omega
      obtain ⟨g1, g2, g3, g4, g5⟩ := five (s := 9223372036854775808) (I := 18442240474082181120) (by decide) (by decide) (by omega) hT (fun h => lo (by omega)) hr hx (E1 := u 3 + K + 1076) (by omega) (E2 := u 3 + K + 1075) (by omega)
      exact ⟨trivial, g2 b0 b1, trivial⟩
    · intro a1 a2 a3 a4 a5 a6 a7 a8 a9 a10 b0 b1
      obtain ⟨M, f2, hi, lo, hr⟩ := core a5
      clear core
      have hu5 : u 5 = M := by rw [a7, f2, u64_wr]; omega
      have hc : ¬ lost q K = 0 ∧ ¬ lost q K = 1 := by rw [← F3, ← a8]; exact ⟨a10, a9⟩
      rw [if_neg (by omega)] at hr
      have hx : u 5 = (M : Int) + 0 := by rw [hu5]; omega
      obtain ⟨g1, g2, g3, g4, g5⟩ := five (s := 9223372036854775808) (I := 18442240474082181120) (by decide) (by decide) (by omega) hT (fun h => lo (by omega)) hr hx (E1 := u 3 + K + 1076) (by omega) (E2 := u 3 + K + 1075) (by omega)
      exact ⟨trivial, g3 b0 b1, trivial⟩
    · intro a1 a2 a3 a4 a5 a6 a7 a8 a9 a10 b0 b1 b2
      obtain ⟨M, f2, hi, lo, hr⟩ := core a5
      clear core
      have hu5 : u 5 = M := by rw [a7, f2, u64_wr]; omega
      have hc : ¬ lost q K = 0 ∧ ¬ lost q K = 1 := by rw [← F3, ← a8]; exact ⟨a10, a9⟩
      rw [if_neg (by omega)] at hr
      have hx : u 5 = (M : Int) + 0 := by rw [hu5]; omega
      obtain ⟨g1, g2, g3, g4, g5⟩ := five (s := 9223372036854775808) (I := 18442240474082181120) (by decide) (by decide) (by omega) hT (fun h => lo (by omega)) hr hx (E1 := u 3 + K + 1076) (by omega) (E2 := u 3 + K + 1075) (by omega)
      exact ⟨trivial, g4 b0 b1 b2, trivial⟩
    · intro a1 a2 a3 a4 a5 a6 a7 a8 a9 a10 b0 b1 b2
      obtain ⟨M, f2, hi, lo, hr⟩ := core a5
      clear core
      have hu5 : u 5 = M := by rw [a7, f2, u64_wr]; omega
      have hc : ¬ lost q K = 0 ∧ ¬ lost q K = 1 := by rw [← F3, ← a8]; exact ⟨a10, a9⟩
      rw [if_neg (by omega)] at hr
      have hx : u 5 = (M : Int) + 0 := by rw [hu5]; omega
      obtain ⟨g1, g2, g3, g4, g5⟩ := five (s := 9223372036854775808) (I := 18442240474082181120) (by decide) (by decide) (by omega) hT (fun h => lo (by omega)) hr hx (E1 := u 3 + K + 1076) (by omega) (E2 := u 3 + K + 1075) (by omega)
      exact ⟨trivial, g5 b0 b1 b2, trivial⟩
end Go.Proofs.Ytnodelimomljbaa.PlainRndA0

/- The ways of the reference's floats through numbers, and that the code takes no other. No condition. -/
namespace Go.Proofs.Ytnodelimomljbaa.RunRndA1
open Go Go.Sx Go.Sx.Flt Go.Sx.Ref

def rndA1R : List Leaf := [
  ([(.bin .eq (.bin (.bits .or .u64) (.var 1) (.var 2)) (.lit 0)), (.bin .le (.lit 0) (.bin .sub (.lit (-1074)) (.var 3))), (.bin .lt (.bin .add (.fn 0 (.bin .add (.bin .mul (.var 1) (.lit 18446744073709551616)) (.var 2)) (.lit 0) (.lit 0)) (.lit (-53))) (.bin .sub (.lit (-1074)) (.var 3))), (.bin .le (.lit (-5000)) (.var 3)), (.bin .le (.var 3) (.lit 5000))], (.int .u64 (.ite (.un .bnot (.un .bnot (.var 0))) (.lit 9223372036854775808) (.lit 0)))),
  ([(.bin .le (.lit 2047) (.bin .add (.bin .add (.var 3) (.bin .sub (.lit (-1074)) (.var 3))) (.lit 1076))), (.bin .eq (.un (.wrap .u64) (.bin .add (.var 5) (.lit 1))) (.lit 9007199254740992)), (.bin .eq (.var 6) (.lit 1)), (.bin .eq (.var 6) (.fn 3 (.bin .add (.bin .mul (.var 1) (.lit 18446744073709551616)) (.var 2)) (.bin .sub (.lit (-1074)) (.var 3)) (.lit 0))), (.bin .eq (.var 5) (.un (.wrap .u64) (.fn 2 (.bin .add (.bin .mul (.var 1) (.lit 18446744073709551616)) (.var 2)) (.bin .sub (.lit (-1074)) (.var 3)) (.lit 0)))), (.bin .eq (.var 4) (.un (.wrap .u64) (.bin .ediv (.fn 2 (.bin .add (.bin .mul (.var 1) (.lit 18446744073709551616)) (.var 2)) (.bin .sub (.lit (-1074)) (.var 3)) (.lit 0)) (.lit 18446744073709551616)))), (.un .bnot (.bin .eq (.bin (.bits .or .u64) (.var 1) (.var 2)) (.lit 0))), (.bin .le (.lit 0) (.bin .sub (.lit (-1074)) (.var 3))), (.bin .lt (.bin .add (.fn 0 (.bin .add (.bin .mul (.var 1) (.lit 18446744073709551616)) (.var 2)) (.lit 0) (.lit 0)) (.lit (-53))) (.bin .sub (.lit (-1074)) (.var 3))), (.bin .le (.lit (-5000)) (.var 3)), (.bin .le (.var 3) (.lit 5000))], (.int .u64 (.ite (.un .bnot (.un .bnot (.var 0))) (.lit 18442240474082181120) (.lit 9218868437227405312)))),
  ([(.bin .lt (.bin .add (.bin .add (.var 3) (.bin .sub (.lit (-1074)) (.var 3))) (.lit 1076)) (.lit 2047)), (.bin .eq (.un (.wrap .u64) (.bin .add (.var 5) (.lit 1))) (.lit 9007199254740992)), (.bin .eq (.var 6) (.lit 1)), (.bin .eq (.var 6) (.fn 3 (.bin .add (.bin .mul (.var 1) (.lit 18446744073709551616)) (.var 2)) (.bin .sub (.lit (-1074)) (.var 3)) (.lit 0))), (.bin .eq (.var 5) (.un (.wrap .u64) (.fn 2 (.bin .add (.bin .mul (.var 1) (.lit 18446744073709551616)) (.var 2)) (.bin .sub (.lit (-1074)) (.var 3)) (.lit 0)))), (.bin .eq (.var 4) (.un (.wrap .u64) (.bin .ediv (.fn 2 (.bin .add (.bin .mul (.var 1) (.lit 18446744073709551616)) (.var 2)) (.bin .sub (.lit (-1074)) (.var 3)) (.lit 0)) (.lit 18446744073709551616)))), (.un .bnot (.bin .eq (.bin (.bits .or .u64) (.var 1) (.var 2)) (.lit 0))), (.bin .le (.lit 0) (.bin .sub (.lit (-1074)) (.var 3))), (.bin .lt (.bin .add (.fn 0 (.bin .add (.bin .mul (.var 1) (.lit 18446744073709551616)) (.var 2)) (.lit 0) (.lit 0)) (.lit (-53))) (.bin .sub (.lit (-1074)) (.var 3))), (.bin .le (.lit (-5000)) (.var 3)), (.bin .le (.var 3) (.lit 5000))], (.int .u64 (.bin (.bits .or .u64) (.bin (.bits .or .u64) (.ite (.un .bnot (.un .bnot (.var 0))) (.lit 9223372036854775808) (.lit 0)) (.un (.wrap .u64) (.bin .mul (.un (.wrap .u64) (.bin .add (.bin .add (.var 3) (.bin .sub (.lit (-1074)) (.var 3))) (.lit 1076))) (.lit 4503599627370496)))) (.bin .emod (.bin .ediv (.un (.wrap .u64) (.bin .add (.var 5) (.lit 1))) (.lit 2)) (.lit 4503599627370496))))),
  ([(.bin .lt (.un (.wrap .u64) (.bin .add (.var 5) (.lit 1))) (.lit 4503599627370496)), (.un .bnot (.bin .eq (.un (.wrap .u64) (.bin .add (.var 5) (.lit 1))) (.lit 9007199254740992))), (.bin .eq (.var 6) (.lit 1)), (.bin .eq (.var 6) (.fn 3 (.bin .add (.bin .mul (.var 1) (.lit 18446744073709551616)) (.var 2)) (.bin .sub (.lit (-1074)) (.var 3)) (.lit 0))), (.bin .eq (.var 5) (.un (.wrap .u64) (.fn 2 (.bin .add (.bin .mul (.var 1) (.lit 18446744073709551616)) (.var 2)) (.bin .sub (.lit (-1074)) (.var 3)) (.lit 0)))), (.bin .eq (.var 4) (.un (.wrap .u64) (.bin .ediv (.fn 2 (.bin .add (.bin .mul (.var 1) (.lit 18446744073709551616)) (.var 2)) (.bin .sub (.lit (-1074)) (.var 3)) (.lit 0)) (.lit 18446744073709551616)))), (.un .bnot (.bin .eq (.bin (.bits .or .u64) (.var 1) (.var 2)) (.lit 0))), (.bin .le (.lit 0) (.bin .sub (.lit (-1074)) (.var 3))), (.bin .lt (.bin .add (.fn 0 (.bin .add (.bin .mul (.var 1) (.lit 18446744073709551616)) (.var 2)) (.lit 0) (.lit 0)) (.lit (-53))) (.bin .sub (.lit (-1074)) (.var 3))), (.bin .le (.lit (-5000)) (.var 3)), (.bin .le (.var 3) (.lit 5000))], (.int .u64 (.bin (.bits .or .u64) (.ite (.un .bnot (.un .bnot (.var 0))) (.lit 9223372036854775808) (.lit 0)) (.un (.wrap .u64) (.bin .add (.var 5) (.lit 1)))))),
  ([(.bin .le (.lit 2047) (.bin .add (.bin .add (.var 3) (.bin .sub (.lit (-1074)) (.var 3))) (.lit 1075))), (.bin .le (.lit 4503599627370496) (.un (.wrap .u64) (.bin .add (.var 5) (.lit 1)))), (.un .bnot (.bin .eq (.un (.wrap .u64) (.bin .add (.var 5) (.lit 1))) (.lit 9007199254740992))), (.bin .eq (.var 6) (.lit 1)), (.bin .eq (.var 6) (.fn 3 (.bin .add (.bin .mul (.var 1) (.lit 18446744073709551616)) (.var 2)) (.bin .sub (.lit (-1074)) (.var 3)) (.lit 0))), (.bin .eq (.var 5) (.un (.wrap .u64) (.fn 2 (.bin .add (.bin .mul (.var 1) (.lit 18446744073709551616)) (.var 2)) (.bin .sub (.lit (-1074)) (.var 3)) (.lit 0)))), (.bin .eq (.var 4) (.un (.wrap .u64) (.bin .ediv (.fn 2 (.bin .add (.bin .mul (.var 1) (.lit 18446744073709551616)) (.var 2)) (.bin .sub (.lit (-1074)) (.var 3)) (.lit 0)) (.lit 18446744073709551616)))), (.un .bnot (.bin .eq (.bin (.bits .or .u64) (.var 1) (.var 2)) (.lit 0))), (.bin .le (.lit 0) (.bin .sub (.lit (-1074)) (.var 3))), (.bin .lt (.bin .add (.fn 0 (.bin .add (.bin .mul (.var 1) (.lit 18446744073709551616)) (.var 2)) (.lit 0) (.lit 0)) (.lit (-53))) (.bin .sub (.lit (-1074)) (.var 3))), (.bin .le (.lit (-5000)) (.var 3)), (.bin .le (.var 3) (.lit 5000))], (.int .u64 (.ite (.un .bnot (.un .bnot (.var 0))) (.lit 18442240474082181120) (.lit 9218868437227405312)))),
  ([(.bin .lt (.bin .add (.bin .add (.var 3) (.bin .sub (.lit (-1074)) (.var 3))) (.lit 1075)) (.lit 2047)), (.bin .le (.lit 4503599627370496) (.un (.wrap .u64) (.bin .add (.var 5) (.lit 1)))), (.un .bnot (.bin .eq (.un (.wrap .u64) (.bin .add (.var 5) (.lit 1))) (.lit 9007199254740992))), (.bin .eq (.var 6) (.lit 1)), (.bin .eq (.var 6) (.fn 3 (.bin .add (.bin .mul (.var 1) (.lit 18446744073709551616)) (.var 2)) (.bin .sub (.lit (-1074)) (.var 3)) (.lit 0))), (.bin .eq (.var 5) (.un (.wrap .u64) (.fn 2 (.bin .add (.bin .mul (.var 1) (.lit 18446744073709551616)) (.var 2)) (.bin .sub (.lit (-1074)) (.var 3)) (.lit 0)))), (.bin .eq (.var 4) (.un (.wrap .u64) (.bin .ediv (.fn 2 (.bin .add (.bin .mul (.var 1) (.lit 18446744073709551616)) (.var 2)) (.bin .sub (.lit (-1074)) (.var 3)) (.lit 0)) (.lit 18446744073709551616)))), (.un .bnot (.bin .eq (.bin (.bits .or .u64) (.var 1) (.var 2)) (.lit 0))), (.bin .le (.lit 0) (.bin .sub (.lit (-1074)) (.var 3))), (.bin .lt (.bin .add (.fn 0 (.bin .add (.bin .mul (.var 1) (.lit 18446744073709551616)) (.var 2)) (.lit 0) (.lit 0)) (.lit (-53))) (.bin .sub (.lit (-1074)) (.var 3))), (.bin .le (.lit (-5000)) (.var 3)), (.bin .le (.var 3) (.lit 5000))], (.int .u64 (.bin (.bits .or .u64) (.bin (.bits .or .u64) (.ite (.un .bnot (.un .bnot (.var 0))) (.lit 9223372036854775808) (.lit 0)) (.un (.wrap .u64) (.bin .mul (.un (.wrap .u64) (.bin .add (.bin .add (.var 3) (.bin .sub (.lit (-1074)) (.var 3))) (.lit 1075))) (.lit 4503599627370496)))) (.bin .emod (.un (.wrap .u64) (.bin .add (.var 5) (.lit 1))) (.lit 4503599627370496))))),
  ([(.bin .le (.lit 2047) (.bin .add (.bin .add (.var 3) (.bin .sub (.lit (-1074)) (.var 3))) (.lit 1076))), (.bin .eq (.un (.wrap .u64) (.bin .add (.var 5) (.lit 1))) (.lit 9007199254740992)), (.bin .eq (.bin .emod (.var 5) (.lit 2)) (.lit 1)), (.bin .eq (.var 6) (.lit 0)), (.un .bnot (.bin .eq (.var 6) (.lit 1))), (.bin .eq (.var 6) (.fn 3 (.bin .add (.bin .mul (.var 1) (.lit 18446744073709551616)) (.var 2)) (.bin .sub (.lit (-1074)) (.var 3)) (.lit 0))), (.bin .eq (.var 5) (.un (.wrap .u64) (.fn 2 (.bin .add (.bin .mul (.var 1) (.lit 18446744073709551616)) (.var 2)) (.bin .sub (.lit (-1074)) (.var 3)) (.lit 0)))), (.bin .eq (.var 4) (.un (.wrap .u64) (.bin .ediv (.fn 2 (.bin .add (.bin .mul (.var 1) (.lit 18446744073709551616)) (.var 2)) (.bin .sub (.lit (-1074)) (.var 3)) (.lit 0)) (.lit 18446744073709551616)))), (.un .bnot (.bin .eq (.bin (.bits .or .u64) (.var 1) (.var 2)) (.lit 0))), (.bin .le (.lit 0) (.bin .sub (.lit (-1074)) (.var 3))), (.bin .lt (.bin .add (.fn 0 (.bin .add (.bin .mul (.var 1) (.lit 18446744073709551616)) (.var 2)) (.lit 0) (.lit 0)) (.lit (-53))) (.bin .sub (.lit (-1074)) (.var 3))), (.bin .le (.lit (-5000)) (.var 3)), (.bin .le (.var 3) (.lit 5000))], (.int .u64 (.ite (.un .bnot (.un .bnot (.var 0))) (.lit 18442240474082181120) (.lit 9218868437227405312)))),
  ([(.bin .lt (.bin .add (.bin .add (.var 3) (.bin .sub (.lit (-1074)) (.var 3))) (.lit 1076)) (.lit 2047)), (.bin .eq (.un (.wrap .u64) (.bin .add (.var 5) (.lit 1))) (.lit 9007199254740992)), (.bin .eq (.bin .emod (.var 5) (.lit 2)) (.lit 1)), (.bin .eq (.var 6) (.lit 0)), (.un .bnot (.bin .eq (.var 6) (.lit 1))), (.bin .eq (.var 6) (.fn 3 (.bin .add (.bin .mul (.var 1) (.lit 18446744073709551616)) (.var 2)) (.bin .sub (.lit (-1074)) (.var 3)) (.lit 0))), (.bin .eq (.var 5) (.un (.wrap .u64) (.fn 2 (.bin .add (.bin .mul (.var 1) (.lit 18446744073709551616)) (.var 2)) (.bin .sub (.lit (-1074)) (.var 3)) (.lit 0)))), (.bin .eq (.var 4) (.un (.wrap .u64) (.bin .ediv (.fn 2 (.bin .add (.bin .mul (.var 1) (.lit 18446744073709551616)) (.var 2)) (.bin .sub (.lit (-1074)) (.var 3)) (.lit 0)) (.lit 18446744073709551616)))), (.un .bnot (.bin .eq (.bin (.bits .or .u64) (.var 1) (.var 2)) (.lit 0))), (.bin .le (.lit 0) (.bin .sub (.lit (-1074)) (.var 3))), (.bin .lt (.bin .add (.fn 0 (.bin .add (.bin .mul (.var 1) (.lit 18446744073709551616)) (.var 2)) (.lit 0) (.lit 0)) (.lit (-53))) (.bin .sub (.lit (-1074)) (.var 3))), (.bin .le (.lit (-5000)) (.var 3)), (.bin .le (.var 3) (.lit 5000))], (.int .u64 (.bin (.bits .or .u64) (.bin (.bits .or .u64) (.ite (.un .bnot (.un .bnot (.var 0))) (.lit 9223372036854775808) (.lit 0)) (.un (.wrap .u64) (.bin .mul (.un (.wrap .u64) (.bin .add (.bin .add (.var 3) (.bin .sub (.lit (-1074)) (.var 3))) (.lit 1076))) (.lit 4503599627370496)))) (.bin .emod (.bin .ediv (.un (.wrap .u64) (.bin .add (.var 5) (.lit 1))) (.lit 2)) (.lit 4503599627370496))))),
  ([(.bin .lt (.un (.wrap .u64) (.bin .add (.var 5) (.lit 1))) (.lit 4503599627370496)), (.un .bnot (.bin .eq (.un (.wrap .u64) (.bin .add (.var 5) (.lit 1))) (.lit 9007199254740992))), (.bin .eq (.bin .emod (.var 5) (.lit 2)) (.lit 1)), (.bin .eq (.var 6) (.lit 0)), (.un .bnot (.bin .eq (.var 6) (.lit 1))), (.bin .eq (.var 6) (.fn 3 (.bin .add (.bin .mul (.var 1) (.lit 18446744073709551616)) (.var 2)) (.bin .sub (.lit (-1074)) (.var 3)) (.lit 0))), (.bin .eq (.var 5) (.un (.wrap .u64) (.fn 2 (.bin .add (.bin .mul (.var 1) (.lit 18446744073709551616)) (.var 2)) (.bin .sub (.lit (-1074)) (.var 3)) (.lit 0)))), (.bin .eq (.var 4) (.un (.wrap .u64) (.bin .ediv (.fn 2 (.bin .add (.bin .mul (.var 1) (.lit 18446744073709551616)) (.var 2)) (.bin .sub (.lit (-1074)) (.var 3)) (.lit 0)) (.lit 18446744073709551616)))), (.un .bnot (.bin .eq (.bin (.bits .or .u64) (.var 1) (.var 2)) (.lit 0))), (.bin .le (.lit 0) (.bin .sub (.lit (-1074)) (.var 3))), (.bin .lt (.bin .add (.fn 0 (.bin .add (.bin .mul (.var 1) (.lit 18446744073709551616)) (.var 2)) (.lit 0) (.lit 0)) (.lit (-53))) (.bin .sub (.lit (-1074)) (.var 3))), (.bin .le (.lit (-5000)) (.var 3)), (.bin .le (.var 3) (.lit 5000))], (.int .u64 (.bin (.bits .or .u64) (.ite (.un .bnot (.un .bnot (.var 0))) (.lit 9223372036854775808) (.lit 0)) (.un (.wrap .u64) (.bin .add (.var 5) (.lit 1)))))),
  ([(.bin .le (.lit 2047) (.bin .add (.bin .add (.var 3) (.bin .sub (.lit (-1074)) (.var 3))) (.lit 1075))), (.bin .le (.lit 4503599627370496) (.un (.wrap .u64) (.bin .add (.var 5) (.lit 1)))), (.un .bnot (.bin .eq (.un (.wrap .u64) (.bin .add (.var 5) (.lit 1))) (.lit 9007199254740992))), (.bin .eq (.bin .emod (.var 5) (.lit 2)) (.lit 1)), (.bin .eq (.var 6) (.lit 0)), (.un .bnot (.bin .eq (.var 6) (.lit 1))), (.bin .eq (.var 6) (.fn 3 (.bin .add (.bin .mul (.var 1) (.lit 18446744073709551616)) (.var 2)) (.bin .sub (.lit (-1074)) (.var 3)) (.lit 0))), (.bin .eq (.var 5) (.un (.wrap .u64) (.fn 2 (.bin .add (.bin .mul (.var 1) (.lit 18446744073709551616)) (.var 2)) (.bin .sub (.lit (-1074)) (.var 3)) (.lit 0)))), (.bin .eq (.var 4) (.un (.wrap .u64) (.bin .ediv (.fn 2 (.bin .add (.bin .mul (.var 1) (.lit 18446744073709551616)) (.var 2)) (.bin .sub (.lit (-1074)) (.var 3)) (.lit 0)) (.lit 18446744073709551616)))), (.un .bnot (.bin .eq (.bin (.bits .or .u64) (.var 1) (.var 2)) (.lit 0))), (.bin .le (.lit 0) (.bin .sub (.lit (-1074)) (.var 3))), (.bin .lt (.bin .add (.fn 0 (.bin .add (.bin .mul (.var 1) (.lit 18446744073709551616)) (.var 2)) (.lit 0) (.lit 0)) (.lit (-53))) (.bin .sub (.lit (-1074)) (.var 3))), (.bin .le (.lit (-5000)) (.var 3)), (.bin .le (.var 3) (.lit 5000))], (.int .u64 (.ite (.un .bnot (.un .bnot (.var 0))) (.lit 18442240474082181120) (.lit 9218868437227405312)))),
  ([(.bin .lt (.bin .add (.bin .add (.var 3) (.bin .sub (.lit (-1074)) (.var 3))) (.lit 1075)) (.lit 2047)), (.bin .le (.lit 4503599627370496) (.un (.wrap .u64) (.bin .add (.var 5) (.lit 1)))), (.un .bnot (.bin .eq (.un (.wrap .u64) (.bin .add (.var 5) (.lit 1))) (.lit 9007199254740992))), (.bin .eq (.bin .emod (.var 5) (.lit 2)) (.lit 1)), (.bin .eq (.var 6) (.lit 0)), (.un .bnot (.bin .eq (.var 6) (.lit 1))), (.bin .eq (.var 6) (.fn 3 (.bin .add (.bin .mul (.var 1) (.lit 18446744073709551616)) (.var 2)) (.bin .sub (.lit (-1074)) (.var 3)) (.lit 0))), (.bin .eq (.var 5) (.un (.wrap .u64) (.fn 2 (.bin .add (.bin .mul (.var 1) (.lit 18446744073709551616)) (.var 2)) (.bin .sub (.lit (-1074)) (.var 3)) (.lit 0)))), (.bin .eq (.var 4) (.un (.wrap .u64) (.bin .ediv (.fn 2 (.bin .add (.bin .mul (.var 1) (.lit 18446744073709551616)) (.var 2)) (.bin .sub (.lit (-1074)) (.var 3)) (.lit 0)) (.lit 18446744073709551616)))), (.un .bnot (.bin .eq (.bin (.bits .or .u64) (.var 1) (.var 2)) (.lit 0))), (.bin .le (.lit 0) (.bin .sub (.lit (-1074)) (.var 3))), (.bin .lt (.bin .add (.fn 0 (.bin .add (.bin .mul (.var 1) (.lit 18446744073709551616)) (.var 2)) (.lit 0) (.lit 0)) (.lit (-53))) (.bin .sub (.lit (-1074)) (.var 3))), (.bin .le (.lit (-5000)) (.var 3)), (.bin .le (.var 3) (.lit 5000))], (.int .u64 (.bin (.bits .or .u64) (.bin (.bits .or .u64) (.ite (.un .bnot (.un .bnot (.var 0))) (.lit 9223372036854775808) (.lit 0)) (.un (.wrap .u64) (.bin .mul (.un (.wrap .u64) (.bin .add (.bin .add (.var 3) (.bin .sub (.lit (-1074)) (.var 3))) (.lit 1075))) (.lit 4503599627370496)))) (.bin .emod (.un (.wrap .u64) (.bin .add (.var 5) (.lit 1))) (.lit 4503599627370496))))),
  ([(.bin .le (.lit 2047) (.bin .add (.bin .add (.var 3) (.bin .sub (.lit (-1074)) (.var 3))) (.lit 1076))), (.bin .eq (.var 5) (.lit 9007199254740992)), (.un .bnot (.bin .eq (.bin .emod (.var 5) (.lit 2)) (.lit 1))), (.bin .eq (.var 6) (.lit 0)), (.un .bnot (.bin .eq (.var 6) (.lit 1))), (.bin .eq (.var 6) (.fn 3 (.bin .add (.bin .mul (.var 1) (.lit 18446744073709551616)) (.var 2)) (.bin .sub (.lit (-1074)) (.var 3)) (.lit 0))), (.bin .eq (.var 5) (.un (.wrap .u64) (.fn 2 (.bin .add (.bin .mul (.var 1) (.lit 18446744073709551616)) (.var 2)) (.bin .sub (.lit (-1074)) (.var 3)) (.lit 0)))), (.bin .eq (.var 4) (.un (.wrap .u64) (.bin .ediv (.fn 2 (.bin .add (.bin .mul (.var 1) (.lit 18446744073709551616)) (.var 2)) (.bin .sub (.lit (-1074)) (.var 3)) (.lit 0)) (.lit 18446744073709551616)))), (.un .bnot (.bin .eq (.bin (.bits .or .u64) (.var 1) (.var 2)) (.lit 0))), (.bin .le (.lit 0) (.bin .sub (.lit (-1074)) (.var 3))), (.bin .lt (.bin .add (.fn 0 (.bin .add (.bin .mul (.var 1) (.lit 18446744073709551616)) (.var 2)) (.lit 0) (.lit 0)) (.lit (-53))) (.bin .sub (.lit (-1074)) (.var 3))), (.bin .le (.lit (-5000)) (.var 3)), (.bin .le (.var 3) (.lit 5000))], (.int .u64 (.ite (.un .bnot (.un .bnot (.var 0))) (.lit 18442240474082181120) (.lit 9218868437227405312)))),
  ([(.bin .lt (.bin .add (.bin .add (.var 3) (.bin .sub (.lit (-1074)) (.var 3))) (.lit 1076)) (.lit 2047)), (.bin .eq (.var 5) (.lit 9007199254740992)), (.un .bnot (.bin .eq (.bin .emod (.var 5) (.lit 2)) (.lit 1))), (.bin .eq (.var 6) (.lit 0)), (.un .bnot (.bin .eq (.var 6) (.lit 1))), (.bin .eq (.var 6) (.fn 3 (.bin .add (.bin .mul (.var 1) (.lit 18446744073709551616)) (.var 2)) (.bin .sub (.lit (-1074)) (.var 3)) (.lit 0))), (.bin .eq (.var 5) (.un (.wrap .u64) (.fn 2 (.bin .add (.bin .mul (.var 1) (.lit 18446744073709551616)) (.var 2)) (.bin .sub (.lit (-1074)) (.var 3)) (.lit 0)))), (.bin .eq (.var 4) (.un (.wrap .u64) (.bin .ediv (.fn 2 (.bin .add (.bin .mul (.var 1) (.lit 18446744073709551616)) (.var 2)) (.bin .sub (.lit (-1074)) (.var 3)) (.lit 0)) (.lit 18446744073709551616)))), (.un .bnot (.bin .eq (.bin (.bits .or .u64) (.var 1) (.var 2)) (.lit 0))), (.bin .le (.lit 0) (.bin .sub (.lit (-1074)) (.var 3))), (.bin .lt (.bin .add (.fn 0 (.bin .add (.bin .mul (.var 1) (.lit 18446744073709551616)) (.var 2)) (.lit 0) (.lit 0)) (.lit (-53))) (.bin .sub (.lit (-1074)) (.var 3))), (.bin .le (.lit (-5000)) (.var 3)), (.bin .le (.var 3) (.lit 5000))], (.int .u64 (.bin (.bits .or .u64) (.bin (.bits .or .u64) (.ite (.un .bnot (.un .bnot (.var 0))) (.lit 9223372036854775808) (.lit 0)) (.un (.wrap .u64) (.bin .mul (.un (.wrap .u64) (.bin .add (.bin .add (.var 3) (.bin .sub (.lit (-1074)) (.var 3))) (.lit 1076))) (.lit 4503599627370496)))) (.bin .emod (.bin .ediv (.var 5) (.lit 2)) (.lit 4503599627370496))))),
  ([(.bin .lt (.var 5) (.lit 4503599627370496)), (.un .bnot (.bin .eq (.var 5) (.lit 9007199254740992))), (.un .bnot (.bin .eq (.bin .emod (.var 5) (.lit 2)) (.lit 1))), (.bin .eq (.var 6) (.lit 0)), (.un .bnot (.bin .eq (.var 6) (.lit 1))), (.bin .eq (.var 6) (.fn 3 (.bin .add (.bin .mul (.var 1) (.lit 18446744073709551616)) (.var 2)) (.bin .sub (.lit (-1074)) (.var 3)) (.lit 0))), (.bin .eq (.var 5) (.un (.wrap .u64) (.fn 2 (.bin .add (.bin .mul (.var 1) (.lit 18446744073709551616)) (.var 2)) (.bin .sub (.lit (-1074)) (.var 3)) (.lit 0)))), (.bin .eq (.var 4) (.un (.wrap .u64) (.bin .ediv (.fn 2 (.bin .add (.bin .mul (.var 1) (.lit 18446744073709551616)) (.var 2)) (.bin .sub (.lit (-1074)) (.var 3)) (.lit 0)) (.lit 18446744073709551616)))), (.un .bnot (.bin .eq (.bin (.bits .or .u64) (.var 1) (.var 2)) (.lit 0))), (.bin .le (.lit 0) (.bin .sub (.lit (-1074)) (.var 3))), (.bin .lt (.bin .add (.fn 0 (.bin .add (.bin .mul (.var 1) (.lit 18446744073709551616)) (.var 2)) (.lit 0) (.lit 0)) (.lit (-53))) (.bin .sub (.lit (-1074)) (.var 3))), (.bin .le (.lit (-5000)) (.var 3)), (.bin .le (.var 3) (.lit 5000))], (.int .u64 (.bin (.bits .or .u64) (.ite (.un .bnot (.un .bnot (.var 0))) (.lit 9223372036854775808) (.lit 0)) (.var 5)))),
  ([(.bin .le (.lit 2047) (.bin .add (.bin .add (.var 3) (.bin .sub (.lit (-1074)) (.var 3))) (.lit 1075))), (.bin .le (.lit 4503599627370496) (.var 5)), (.un .bnot (.bin .eq (.var 5) (.lit 9007199254740992))), (.un .bnot (.bin .eq (.bin .emod (.var 5) (.lit 2)) (.lit 1))), (.bin .eq (.var 6) (.lit 0)), (.un .bnot (.bin .eq (.var 6) (.lit 1))), (.bin .eq (.var 6) (.fn 3 (.bin .add (.bin .mul (.var 1) (.lit 18446744073709551616)) (.var 2)) (.bin .sub (.lit (-1074)) (.var 3)) (.lit 0))), (.bin .eq (.var 5) (.un (.wrap .u64) (.fn 2 (.bin .add (.bin .mul (.var 1) (.lit 18446744073709551616)) (.var 2)) (.bin .sub (.lit (-1074)) (.var 3)) (.lit 0)))), (.bin .eq (.var 4) (.un (.wrap .u64) (.bin .ediv (.fn 2 (.bin .add (.bin .mul (.var 1) (.lit 18446744073709551616)) (.var 2)) (.bin .sub (.lit (-1074)) (.var 3)) (.lit 0)) (.lit 18446744073709551616)))), (.un .bnot (.bin .eq (.bin (.bits .or .u64) (.var 1) (.var 2)) (.lit 0))), (.bin .le (.lit 0) (.bin .sub (.lit (-1074)) (.var 3))), (.bin .lt (.bin .add (.fn 0 (.bin .add (.bin .mul (.var 1) (.lit 18446744073709551616)) (.var 2)) (.lit 0) (.lit 0)) (.lit (-53))) (.bin .sub (.lit (-1074)) (.var 3))), (.bin .le (.lit (-5000)) (.var 3)), (.bin .le (.var 3) (.lit 5000))], (.int .u64 (.ite (.un .bnot (.un .bnot (.var 0))) (.lit 18442240474082181120) (.lit 9218868437227405312)))),
  ([(.bin .lt (.bin .add (.bin .add (.var 3) (.bin .sub (.lit (-1074)) (.var 3))) (.lit 1075)) (.lit 2047)), (.bin .le (.lit 4503599627370496) (.var 5)), (.un .bnot (.bin .eq (.var 5) (.lit 9007199254740992))), (.un .bnot (.bin .eq (.bin .emod (.var 5) (.lit 2)) (.lit 1))), (.bin .eq (.var 6) (.lit 0)), (.un .bnot (.bin .eq (.var 6) (.lit 1))), (.bin .eq (.var 6) (.fn 3 (.bin .add (.bin .mul (.var 1) (.lit 18446744073709551616)) (.var 2)) (.bin .sub (.lit (-1074)) (.var 3)) (.lit 0))), (.bin .eq (.var 5) (.un (.wrap .u64) (.fn 2 (.bin .add (.bin .mul (.var 1) (.lit 18446744073709551616)) (.var 2)) (.bin .sub (.lit (-1074)) (.var 3)) (.lit 0)))), (.bin .eq (.var 4) (.un (.wrap .u64) (.bin .ediv (.fn 2 (.bin .add (.bin .mul (.var 1) (.lit 18446744073709551616)) (.var 2)) (.bin .sub (.lit (-1074)) (.var 3)) (.lit 0)) (.lit 18446744073709551616)))), (.un .bnot (.bin .eq (.bin (.bits .or .u64) (.var 1) (.var 2)) (.lit 0))), (.bin .le (.lit 0) (.bin .sub (.lit (-1074)) (.var 3))), (.bin .lt (.bin .add (.fn 0 (.bin .add (.bin .mul (.var 1) (.lit 18446744073709551616)) (.var 2)) (.lit 0) (.lit 0)) (.lit (-53))) (.bin .sub (.lit (-1074)) (.var 3))), (.bin .le (.lit (-5000)) (.var 3)), (.bin .le (.var 3) (.lit 5000))], (.int .u64 (.bin (.bits .or .u64) (.bin (.bits .or .u64) (.ite (.un .bnot (.un .bnot (.var 0))) (.lit 9223372036854775808) (.lit 0)) (.un (.wrap .u64) (.bin .mul (.un (.wrap .u64) (.bin .add (.bin .add (.var 3) (.bin .sub (.lit (-1074)) (.var 3))) (.lit 1075))) (.lit 4503599627370496)))) (.bin .emod (.var 5) (.lit 4503599627370496))))),
  ([(.bin .le (.lit 2047) (.bin .add (.bin .add (.var 3) (.bin .sub (.lit (-1074)) (.var 3))) (.lit 1076))), (.bin .eq (.var 5) (.lit 9007199254740992)), (.un .bnot (.bin .eq (.var 6) (.lit 0))), (.un .bnot (.bin .eq (.var 6) (.lit 1))), (.bin .eq (.var 6) (.fn 3 (.bin .add (.bin .mul (.var 1) (.lit 18446744073709551616)) (.var 2)) (.bin .sub (.lit (-1074)) (.var 3)) (.lit 0))), (.bin .eq (.var 5) (.un (.wrap .u64) (.fn 2 (.bin .add (.bin .mul (.var 1) (.lit 18446744073709551616)) (.var 2)) (.bin .sub (.lit (-1074)) (.var 3)) (.lit 0)))), (.bin .eq (.var 4) (.un (.wrap .u64) (.bin .ediv (.fn 2 (.bin .add (.bin .mul (.var 1) (.lit 18446744073709551616)) (.var 2)) (.bin .sub (.lit (-1074)) (.var 3)) (.lit 0)) (.lit 18446744073709551616)))), (.un .bnot (.bin .eq (.bin (.bits .or .u64) (.var 1) (.var 2)) (.lit 0))), (.bin .le (.lit 0) (.bin .sub (.lit (-1074)) (.var 3))), (.bin .lt (.bin .add (.fn 0 (.bin .add (.bin .mul (.var 1) (.lit 18446744073709551616)) (.var 2)) (.lit 0) (.lit 0)) (.lit (-53))) (.bin .sub (.lit (-1074)) (.var 3))), (.bin .le (.lit (-5000)) (.var 3)), (.bin .le (.var 3) (.lit 5000))], (.int .u64 (.ite (.un .bnot (.un .bnot (.var 0))) (.lit 18442240474082181120) (.lit 9218868437227405312)))),
  ([(.bin .lt (.bin .add (.bin .add (.var 3) (.bin .sub (.lit (-1074)) (.var 3))) (.lit 1076)) (.lit 2047)), (.bin .eq (.var 5) (.lit 9007199254740992)), (.un .bnot (.bin .eq (.var 6) (.lit 0))), (.un .bnot (.bin .eq (.var 6) (.lit 1))), (.bin .eq (.var 6) (.fn 3 (.bin .add (.bin .mul (.var 1) (.lit 18446744073709551616)) (.var 2)) (.bin .sub (.lit (-1074)) (.var 3)) (.lit 0))), (.bin .eq (.var 5) (.un (.wrap .u64) (.fn 2 (.bin .add (.bin .mul (.var 1) (.lit 18446744073709551616)) (.var 2)) (.bin .sub (.lit (-1074)) (.var 3)) (.lit 0)))), (.bin .eq (.var 4) (.un (.wrap .u64) (.bin .ediv (.fn 2 (.bin .add (.bin .mul (.var 1) (.lit 18446744073709551616)) (.var 2)) (.bin .sub (.lit (-1074)) (.var 3)) (.lit 0)) (.lit 18446744073709551616)))), (.un .bnot (.bin .eq (.bin (.bits .or .u64) (.var 1) (.var 2)) (.lit 0))), (.bin .le (.lit 0) (.bin .sub (.lit (-1074)) (.var 3))), (.bin .lt (.bin .add (.fn 0 (.bin .add (.bin .mul (.var 1) (.lit 18446744073709551616)) (.var 2)) (.lit 0) (.lit 0)) (.lit (-53))) (.bin .sub (.lit (-1074)) (.var 3))), (.bin .le (.lit (-5000)) (.var 3)), (.bin .le (.var 3) (.lit 5000))], (.int .u64 (.bin (.bits .or .u64) (.bin (.bits .or .u64) (.ite (.un .bnot (.un .bnot (.var 0))) (.lit 9223372036854775808) (.lit 0)) (.un (.wrap .u64) (.bin .mul (.un (.wrap .u64) (.bin .add (.bin .add (.var 3) (.bin .sub (.lit (-1074)) (.var 3))) (.lit 1076))) (.lit 4503599627370496)))) (.bin .emod (.bin .ediv (.var 5) (.lit 2)) (.lit 4503599627370496))))),
  ([(.bin .lt (.var 5) (.lit 4503599627370496)), (.un .bnot (.bin .eq (.var 5) (.lit 9007199254740992))), (.un .bnot (.bin .eq (.var 6) (.lit 0))), (.un .bnot (.bin .eq (.var 6) (.lit 1))), (.bin .eq (.var 6) (.fn 3 (.bin .add (.bin .mul (.var 1) (.lit 18446744073709551616)) (.var 2)) (.bin .sub (.lit (-1074)) (.var 3)) (.lit 0))), (.bin .eq (.var 5) (.un (.wrap .u64) (.fn 2 (.bin .add (.bin .mul (.var 1) (.lit 18446744073709551616)) (.var 2)) (.bin .sub (.lit (-1074)) (.var 3)) (.lit 0)))), (.bin .eq (.var 4) (.un (.wrap .u64) (.bin .ediv (.fn 2 (.bin .add (.bin .mul (.var 1) (.lit 18446744073709551616)) (.var 2)) (.bin .sub (.lit (-1074)) (.var 3)) (.lit 0)) (.lit 18446744073709551616)))), (.un .bnot (.bin .eq (.bin (.bits .or .u64) (.var 1) (.var 2)) (.lit 0))), (.bin .le (.lit 0) (.bin .sub (.lit (-1074)) (.var 3))), (.bin .lt (.bin .add (.fn 0 (.bin .add (.bin .mul (.var 1) (.lit 18446744073709551616)) (.var 2)) (.lit 0) (.lit 0)) (.lit (-53))) (.bin .sub (.lit (-1074)) (.var 3))), (.bin .le (.lit (-5000)) (.var 3)), (.bin .le (.var 3) (.lit 5000))], (.int .u64 (.bin (.bits .or .u64) (.ite (.un .bnot (.un .bnot (.var 0))) (.lit 9223372036854775808) (.lit 0)) (.var 5)))),
  ([(.bin .le (.lit 2047) (.bin .add (.bin .add (.var 3) (.bin .sub (.lit (-1074)) (.var 3))) (.lit 1075))), (.bin .le (.lit 4503599627370496) (.var 5)), (.un .bnot (.bin .eq (.var 5) (.lit 9007199254740992))), (.un .bnot (.bin .eq (.var 6) (.lit 0))), (.un .bnot (.bin .eq (.var 6) (.lit 1))), (.bin .eq (.var 6) (.fn 3 (.bin .add (.bin .mul (.var 1) (.lit 18446744073709551616)) (.var 2)) (.bin .sub (.lit (-1074)) (.var 3)) (.lit 0))), (.bin .eq (.var 5) (.un (.wrap .u64) (.fn 2 (.bin .add (.bin .mul (.var 1) (.lit 18446744073709551616)) (.var 2)) (.bin .sub (.lit (-1074)) (.var 3)) (.lit 0)))), (.bin .eq (.var 4) (.un (.wrap .u64) (.bin .ediv (.fn 2 (.bin .add (.bin .mul (.var 1) (.lit 18446744073709551616)) (.var 2)) (.bin .sub (.lit (-1074)) (.var 3)) (.lit 0)) (.lit 18446744073709551616)))), (.un .bnot (.bin .eq (.bin (.bits .or .u64) (.var 1) (.var 2)) (.lit 0))), (.bin .le (.lit 0) (.bin .sub (.lit (-1074)) (.var 3))), (.bin .lt (.bin .add (.fn 0 (.bin .add (.bin .mul (.var 1) (.lit 18446744073709551616)) (.var 2)) (.lit 0) (.lit 0)) (.lit (-53))) (.bin .sub (.lit (-1074)) (.var 3))), (.bin .le (.lit (-5000)) (.var 3)), (.bin .le (.var 3) (.lit 5000))], (.int .u64 (.ite (.un .bnot (.un .bnot (.var 0))) (.lit 18442240474082181120) (.lit 9218868437227405312)))),
  ([(.bin .lt (.bin .add (.bin .add (.var 3) (.bin .sub (.lit (-1074)) (.var 3))) (.lit 1075)) (.lit 2047)), (.bin .le (.lit 4503599627370496) (.var 5)), (.un .bnot (.bin .eq (.var 5) (.lit 9007199254740992))), (.un .bnot (.bin .eq (.var 6) (.lit 0))), (.un .bnot (.bin .eq (.var 6) (.lit 1))), (.bin .eq (.var 6) (.fn 3 (.bin .add (.bin .mul (.var 1) (.lit 18446744073709551616)) (.var 2)) (.bin .sub (.lit (-1074)) (.var 3)) (.lit 0))), (.bin .eq (.var 5) (.un (.wrap .u64) (.fn 2 (.bin .add (.bin .mul (.var 1) (.lit 18446744073709551616)) (.var 2)) (.bin .sub (.lit (-1074)) (.var 3)) (.lit 0)))), (.bin .eq (.var 4) (.un (.wrap .u64) (.bin .ediv (.fn 2 (.bin .add (.bin .mul (.var 1) (.lit 18446744073709551616)) (.var 2)) (.bin .sub (.lit (-1074)) (.var 3)) (.lit 0)) (.lit 18446744073709551616)))), (.un .bnot (.bin .eq (.bin (.bits .or .u64) (.var 1) (.var 2)) (.lit 0))), (.bin .le (.lit 0) (.bin .sub (.lit (-1074)) (.var 3))), (.bin .lt (.bin .add (.fn 0 (.bin .add (.bin .mul (.var 1) (.lit 18446744073709551616)) (.var 2)) (.lit 0) (.lit 0)) (.lit (-53))) (.bin .sub (.lit (-1074)) (.var 3))), (.bin .le (.lit (-5000)) (.var 3)), (.bin .le (.var 3) (.lit 5000))], (.int .u64 (.bin (.bits .or .u64) (.bin (.bits .or .u64) (.ite (.un .bnot (.un .bnot (.var 0))) (.lit 9223372036854775808) (.lit 0)) (.un (.wrap .u64) (.bin .mul (.un (.wrap .u64) (.bin .add (.bin .add (.var 3) (.bin .sub (.lit (-1074)) (.var 3))) (.lit 1075))) (.lit 4503599627370496)))) (.bin .emod (.var 5) (.lit 4503599627370496)))))]
set_option maxRecDepth 100000 in
theorem rndA1Ran : runOfG Try.prog (orcs (gOracle gsD0) (orcs (specOracle [longS]) (nameO (specOracle [downS])))) noLoops (bodies fns) [] 4000 rndA1 = some rndA1R := by kernel_rfl
end Go.Proofs.Ytnodelimomljbaa.RunRndA1

/- The reference's round, case A1, in numbers. No condition. -/
namespace Go.Proofs.Ytnodelimomljbaa.PlainRndA1
open Go Go.Sx Go.Sx.Flt Go.Sx.Ref Go.Proofs.Ytnodelimomljbaa.RunRndA1
set_option linter.unusedSimpArgs false
set_option linter.unusedVariables false
set_option maxHeartbeats 1000000 in
theorem plain (u : Nat → Int) (hk : KindOk u 0 rndA1.sp.ks) (hp : pcOk ⟨u, fnG⟩ rndA1.sp.pre) : Keeps ⟨u, fnG⟩ rndA1.sp.res rndA1R := by
  have h1 : 0 ≤ u 1 ∧ u 1 ≤ 18446744073709551615 := of_kind hk.2.1
  have h2 : 0 ≤ u 2 ∧ u 2 ≤ 18446744073709551615 := of_kind hk.2.2.1
  obtain ⟨q, hn⟩ : ∃ n : Nat, u 1 * 18446744073709551616 + u 2 = n := ⟨(u 1 * 18446744073709551616 + u 2).toNat, by omega⟩
  obtain ⟨K, hK⟩ : ∃ K, -1074 - u 3 = K := ⟨_, rfl⟩
  obtain ⟨R, hR⟩ : ∃ R, fnG 4 q (u 3) 0 = R := ⟨_, rfl⟩
  have hL : fnG 0 q 0 0 = (lenN q : Int) := by simp only [fnG, Int.toNat_natCast]
  have q0 := hp _ (List.mem_cons_self)
  have q1 := hp _ (List.mem_cons_of_mem _ List.mem_cons_self)
  simp only [byA, byB, preA, lenE, f1, nn, w64, v, bi, E.den, Bi.den, b2i_ne, decide_eq_true_eq, hn, hL] at q0 q1
  have q0 : 0 ≤ -1074 - u 3 := by first | exact of_decide_eq_true q0 | exact q0
  have q1 : (lenN q : Int) + -53 < -1074 - u 3 := by first | exact of_decide_eq_true q1 | exact q1
  have hT : 0 ≤ u 3 + K + 1074 := by omega
  have h0 : q = 0 → R = 0 := fun h => by rw [← hR]; simp only [fnG, Int.toNat_natCast]; rw [h]; unfold rungOf; simp
  have F3 : fnG 3 q K 0 = lost q K := by simp only [fnG, Int.toNat_natCast]
  have core : ¬ bitI .or .u64 (u 1) (u 2) = 0 → ∃ M : Nat, fnG 2 q K 0 = (M : Int) ∧ M < 9007199254740992 ∧ (M < 4503599627370496 → u 3 + K + 1074 = 0) ∧
      R = min ((u 3 + K + 1074) * 4503599627370496 + ((M : Int) + (if lost q K = 1 ∨ (lost q K = 0 ∧ M % 2 = 1) then 1 else 0))) 9218868437227405312 := by
    intro hne
    have hn0 : q ≠ 0 := fun h => hne ((or_null h1 h2).2 (by omega))
    have hr := rung_double hn0 (u 3) K (by omega)
    have hR' : R = ((rungOf Ieee.double q (u 3) : Nat) : Int) := by rw [← hR]; simp only [fnG, Int.toNat_natCast]
    rw [hr] at hR'
    rw [hR']
    obtain ⟨k, hkk⟩ : ∃ k : Nat, K = k := Int.eq_ofNat_of_zero_le (by omega)
    have e1 : (-K).toNat = 0 := by omega
    have e2 : K.toNat = k := by omega
    refine ⟨q / 2 ^ k, by simp only [fnG, Int.toNat_natCast, e2], ?_, ?_, ?_⟩
    · rw [Nat.div_lt_iff_lt_mul (Nat.two_pow_pos k)]
      have e : (9007199254740992 : Nat) * 2 ^ k = 2 ^ (53 + k) := by rw [Nat.pow_add]
      rw [e]
      exact (lenN_le q (53 + k)).1 (by omega)
    · intro hlo
      omega
    · rw [e1, e2, Nat.pow_zero, Nat.mul_one, rne_lost, ← hkk]
      congr 2
      split <;> simp
  by_cases hz : u 0 = 0
  · have c1 : (b2i (b2i (u 0 == 0) == 0) ≠ 0) = False := by simp [hz, b2i]
    have c2 : (u 0 ≠ 0) = False := by simp [hz]
    simp only [rndA1, rndOf, rndD, rndA1R, Keeps, chain, unOne, List.length, SameL, f2, nn, w64, v, bi, un, E.prop, E.den, Bi.den, Un.den, hn, Nat.beq, c1, c2, if_false, if_true, hK, hR]
    refine ⟨?_, ?_, ?_, ?_, ?_, ?_, ?_, ?_, ?_, ?_, ?_, ?_, ?_, ?_, ?_, ?_, ?_, ?_, ?_, ?_, ?_, trivial⟩
    · intro a1 a2 a3 a4 a5
      have hz2 := (or_null h1 h2).1 a5
      exact ⟨trivial, by rw [h0 (by omega)]; rfl, trivial⟩
    · intro a1 a2 a3 a4 a5 a6 a7 a8 a9 b0 b1
      obtain ⟨M, f2, hi, lo, hr⟩ := core a5
      clear core
      have hu5 : u 5 = M := by rw [a7, f2, u64_wr]; omega
      have hc : lost q K = 1 := by rw [← F3, ← a8, a9]
      rw [if_pos (.inl hc)] at hr
      have hx : IntKind.u64.wrap (u 5 + 1) = (M : Int) + 1 := by rw [hu5, u64_wr]; omega
      obtain ⟨g1, g2, g3, g4, g5⟩ := five (s := 0) (I := 9218868437227405312) (by decide) (by decide) (by omega) hT (fun h => lo (by omega)) hr hx (E1 := u 3 + K + 1076) (by omega) (E2 := u 3 + K + 1075) (by omega)
      exact ⟨trivial, g1 b0 b1, trivial⟩
    · intro a1 a2 a3 a4 a5 a6 a7 a8 a9 b0 b1
      obtain ⟨M, f2, hi, lo, hr⟩ := core a5
      clear core
      have hu5 : u 5 = M := by rw [a7, f2, u64_wr]; omega
      have hc : lost q K = 1 := by rw [← F3, ← a8, a9]
      rw [if_pos (.inl hc)] at hr
      have hx : IntKind.u64.wrap (u 5 + 1) = (M : Int) + 1 := by rw [hu5, u64_wr]; omega
      obtain ⟨g1, g2, g3, g4, g5⟩ := five (s := 0) (I := 9218868437227405312) (by decide) (by decide) (by omega) hT (fun h => lo (by omega)) hr hx (E1 := u 3 + K + 1076) (by omega) (E2 := u 3 + K + 1075) (by omega)
      exact ⟨trivial, g2 b0 b1, trivial⟩
    · intro a1 a2 a3 a4 a5 a6 a7 a8 a9 b0 b1
      obtain ⟨M, f2, hi, lo, hr⟩ := core a5
      clear core
      have hu5 : u 5 = M := by rw [a7, f2, u64_wr]; omega
      have hc : lost q K = 1 := by rw [← F3, ← a8, a9]
      rw [if_pos (.inl hc)] at hr
      have hx : IntKind.u64.wrap (u 5 + 1) = (M : Int) + 1 := by rw [hu5, u64_wr]; omega
      obtain ⟨g1, g2, g3, g4, g5⟩ := five (s := 0) (I := 9218868437227405312) (by decide) (by decide) (by omega) hT (fun h => lo (by omega)) hr hx (E1 := u 3 + K + 1076) (by omega) (E2 := u 3 + K + 1075) (by omega)
      exact ⟨trivial, g3 b0 b1, trivial⟩
    · intro a1 a2 a3 a4 a5 a6 a7 a8 a9 b0 b1 b2
      obtain ⟨M, f2, hi, lo, hr⟩ := core a5
      clear core
      have hu5 : u 5 = M := by rw [a7, f2, u64_wr]; omega
      have hc : lost q K = 1 := by rw [← F3, ← a8, a9]
      rw [if_pos (.inl hc)] at hr
      have hx : IntKind.u64.wrap (u 5 + 1) = (M : Int) + 1 := by rw [hu5, u64_wr]; omega
      obtain ⟨g1, g2, g3, g4, g5⟩ := five (s := 0) (I := 9218868437227405312) (by decide) (by decide) (by omega) hT (fun h => lo (by omega)) hr hx (E1 := u 3 + K + 1076) (by omega) (E2 := u 3 + K + 1075) (by omega)
      exact ⟨trivial, g4 b0 b1 b2, trivial⟩
    · intro a1 a2 a3 a4 a5 a6 a7 a8 a9 b0 b1 b2
      obtain ⟨M, f2, hi, lo, hr⟩ := core a5
      clear core
      have hu5 : u 5 = M := by rw [a7, f2, u64_wr]; omega
      have hc : lost q K = 1 := by rw [← F3, ← a8, a9]
      rw [if_pos (.inl hc)] at hr
      have hx : IntKind.u64.wrap (u 5 + 1) = (M : Int) + 1 := by rw [hu5, u64_wr]; omega
      obtain ⟨g1, g2, g3, g4, g5⟩ := five (s := 0) (I := 9218868437227405312) (by decide) (by decide) (by omega) hT (fun h => lo (by omega)) hr hx (E1 := u 3 + K + 1076) (by omega) (E2 := u 3 + K + 1075) (by omega)
      exact ⟨trivial, g5 b0 b1 b2, trivial⟩
    · intro a1 a2 a3 a4 a5 a6 a7 a8 a9 a10 a11 b0 b1
      obtain ⟨M, f2, hi, lo, hr⟩ := core a5
      clear core
      have hu5 : u 5 = M := by rw [a7, f2, u64_wr]; omega
      have hc : lost q K = 0 := by rw [← F3, ← a8, a10]
      rw [if_pos (.inr ⟨hc, by rw [hu5] at a11; omega⟩)] at hr
      have hx : IntKind.u64.wrap (u 5 + 1) = (M : Int) + 1 := by rw [hu5, u64_wr]; omega
      obtain ⟨g1, g2, g3, g4, g5⟩ := five (s := 0) (I := 9218868437227405312) (by decide) (by decide) (by omega) hT (fun h => lo (by omega)) hr hx (E1 := u 3 + K + 1076) (by omega) (E2 := u 3 + K + 1075) (by omega)
      exact ⟨trivial, g1 b0 b1, trivial⟩
    · intro a1 a2 a3 a4 a5 a6 a7 a8 a9 a10 a11 b0 b1
      obtain ⟨M, f2, hi, lo, hr⟩ := core a5
      clear core
      have hu5 : u 5 = M := by rw [a7, f2, u64_wr]; omega
      have hc : lost q K = 0 := by rw [← F3, ← a8, a10]
      rw [if_pos (.inr ⟨hc, by rw [hu5] at a11; omega⟩)] at hr
      have hx : IntKind.u64.wrap (u 5 + 1) = (M : Int) + 1 := by rw [hu5, u64_wr]; omega
      obtain ⟨g1, g2, g3, g4, g5⟩ := five (s := 0) (I := 9218868437227405312) (by decide) (by decide) (by omega) hT (fun h => lo (by omega)) hr hx (E1 := u 3 + K + 1076) (by omega) (E2 := u 3 + K + 1075) (by omega)
      exact ⟨trivial, g2 b0 b1, trivial⟩
    · intro a1 a2 a3 a4 a5 a6 a7 a8 a9 a10 a11 b0 b1
      obtain ⟨M, f2, hi, lo, hr⟩ := core a5
      clear core
      have hu5 : u 5 = M := by rw [a7, f2, u64_wr]; omega
      have hc : lost q K = 0 := by rw [← F3, ← a8, a10]
      rw [if_pos (.inr ⟨hc, by rw [hu5] at a11; omega⟩)] at hr
      have hx : IntKind.u64.wrap (u 5 + 1) = (M : Int) + 1 := by rw [hu5, u64_wr]; omega
      obtain ⟨g1, g2, g3, g4, g5⟩ := five (s := 0) (I := 9218868437227405312) (by decide) (by decide) (by omega) hT (fun h => lo (by omega)) hr hx (E1 := u 3 + K + 1076) (by omega) (E2 := u 3 + K + 1075) (by omega)
      exact ⟨trivial, g3 b0 b1, trivial⟩
    · intro a1 a2 a3 a4 a5 a6 a7 a8 a9 a10 a11 b0 b1 b2
      obtain ⟨M, f2, hi, lo, hr⟩ := core a5
      clear core
      have hu5 : u 5 = M := by rw [a7, f2, u64_wr]; omega
      have hc : lost q K = 0 := by rw [← F3, ← a8, a10]
      rw [if_pos (.inr ⟨hc, by rw [hu5] at a11; omega⟩)] at hr
      have hx : IntKind.u64.wrap (u 5 + 1) = (M : Int) + 1 := by rw [hu5, u64_wr]; omega
      obtain ⟨g1, g2, g3, g4, g5⟩ := five (s := 0) (I := 9218868437227405312) (by decide) (by decide) (by omega) hT (fun h => lo (by omega)) hr hx (E1 := u 3 + K + 1076) (by omega) (E2 := u 3 + K + 1075) (by omega)
      exact ⟨trivial, g4 b0 b1 b2, trivial⟩
    · intro a1 a2 a3 a4 a5 a6 a7 a8 a9 a10 a11 b0 b1 b2
      obtain ⟨M, f2, hi, lo, hr⟩ := core a5
      clear core
      have hu5 : u 5 = M := by rw [a7, f2, u64_wr]; omega
      have hc : lost q K = 0 := by rw [← F3, ← a8, a10]
      rw [if_pos (.inr ⟨hc, by rw [hu5] at a11; omega⟩)] at hr
      have hx : IntKind.u64.wrap (u 5 + 1) = (M : Int) + 1 := by rw [hu5, u64_wr]; omega
      obtain ⟨g1, g2, g3, g4, g5⟩ := five (s := 0) (I := 9218868437227405312) (by decide) (by decide) (by omega) hT (fun h => lo (by omega)) hr hx (E1 := u 3 + K + 1076) (by omega) (E2 := u 3 + K + 1075) (by omega)
      exact ⟨trivial, g5 b0 b1 b2, trivial⟩
    · intro a1 a2 a3 a4 a5 a6 a7 a8 a9 a10 a11 b0 b1
      obtain ⟨M, f2, hi, lo, hr⟩ := core a5
      clear core
      have hu5 : u 5 = M := by rw [a7, f2, u64_wr]; omega
      have hc : lost q K = 0 := by rw [← F3, ← a8, a10]
      rw [if_neg (by rw [hu5] at a11; omega)] at hr
      have hx : u 5 = (M : Int) + 0 := by rw [hu5]; omega
      obtain ⟨g1, g2, g3, g4, g5⟩ := five (s := 0) (I := 9218868437227405312) (by decide) (by decide) (by omega) hT (fun h => lo (by omega)) hr hx (E1 := u 3 + K + 1076) (by omega) (E2 := u 3 + K + 1075) (by omega)
      exact ⟨trivial, g1 b0 b1, trivial⟩
    · intro a1 a2 a3 a4 a5 a6 a7 a8 a9 a10 a11 b0 b1
      obtain ⟨M, f2, hi, lo, hr⟩ := core a5
      clear core
      have hu5 : u 5 = M := by rw [a7, f2, u64_wr]; omega
      have hc : lost q K = 0 := by rw [← F3, ← a8, a10]
      rw [if_neg (by rw [hu5] at a11; omega)] at hr
      have hx : u 5 = (M : Int) + 0 := by rw [hu5]; omega
      obtain ⟨g1, g2, g3, g4, g5⟩ := five (s := 0) (I := 9218868437227405312) (by decide) (by decide) (by omega) hT (fun h => lo (by omega)) hr hx (E1 := u 3 + K + 1076) (by omega) (E2 := u 3 + K + 1075) (by omega)
      exact ⟨trivial, g2 b0 b1, trivial⟩
    · intro a1 a2 a3 a4 a5 a6 a7 a8 a9 a10 a11 b0 b1
      obtain ⟨M, f2, hi, lo, hr⟩ := core a5
      clear core
      have hu5 : u 5 = M := by rw [a7, f2, u64_wr]; omega
      have hc : lost q K = 0 := by rw [← F3, ← a8, a10]
      rw [if_neg (by rw [hu5] at a11; omega)] at hr
      have hx : u 5 = (M : Int) + 0 := by rw [hu5]; omega
      obtain ⟨g1, g2, g3, g4, g5⟩ := five (s := 0) (I := 9218868437227405312) (by decide) (by decide) (by omega) hT (fun h => lo (by omega)) hr hx (E1 := u 3 + K + 1076) (by omega) (E2 := u 3 + K + 1075) (by omega)
      exact ⟨trivial, g3 b0 b1, trivial⟩
    · intro a1 a2 a3 a4 a5 a6 a7 a8 a9 a10 a11 b0 b1 b2
      obtain ⟨M, f2, hi, lo, hr⟩ := core a5
      clear core
      have hu5 : u 5 = M := by rw [a7, f2, u64_wr]; omega
      have hc : lost q K = 0 := by rw [← F3, ← a8, a10]
      rw [if_neg (by rw [hu5] at a11; omega)] at hr
      have hx : u 5 = (M : Int) + 0 := by rw [hu5]; omega
      obtain ⟨g1, g2, g3, g4, g5⟩ := five (s := 0) (I := 9218868437227405312) (by decide) (by decide) (by omega) hT (fun h => lo (by omega)) hr hx (E1 := u 3 + K + 1076) (by omega) (E2 := u 3 + K + 1075) (by omega)
      exact ⟨trivial, g4 b0 b1 b2, trivial⟩
    · intro a1 a2 a3 a4 a5 a6 a7 a8 a9 a10 a11 b0 b1 b2
      obtain ⟨M, f2, hi, lo, hr⟩ := core a5
      clear core
      have hu5 : u 5 = M := by rw [a7, f2, u64_wr]; omega
      have hc : lost q K = 0 := by rw [← F3, ← a8, a10]
      rw [if_neg (by rw [hu5] at a11; omega)] at hr
      have hx : u 5 = (M : Int) + 0 := by rw [hu5]; omega
      obtain ⟨g1, g2, g3, g4, g5⟩ := five (s := 0) (I := 9218868437227405312) (by decide) (by decide) (by omega) hT (fun h => lo (by omega)) hr hx (E1 := u 3 + K + 1076) (by omega) (E2 := u 3 + K + 1075) (by omega)
      exact ⟨trivial, g5 b0 b1 b2, trivial⟩
    · intro a1 a2 a3 a4 a5 a6 a7 a8 a9 a10 b0 b1
      obtain ⟨M, f2, hi, lo, hr⟩ := core a5
      clear core
      have hu5 : u 5 = M := by rw [a7, f2, u64_wr]; omega
      have hc : ¬ lost q K = 0 ∧ ¬ lost q K = 1 := by rw [← F3, ← a8]; exact ⟨a10, a9⟩
      rw [if_neg (by omega)] at hr
      have hx : u 5 = (M : Int) + 0 := by rw [hu5]; omega
      obtain ⟨g1, g2, g3, g4, g5⟩ := five (s := 0) (I := 9218868437227405312) (by decide) (by decide) (by omega) hT (fun h => lo (by omega)) hr hx (E1 := u 3 + K + 1076) (by omega) (E2 := u 3 + K + 1075) (by omega)
      exact ⟨trivial, g1 b0 b1, trivial⟩
    · intro a1 a2 a3 a4 a5 a6 a7 a8 a9 a10 b0 b1
      obtain ⟨M, f2, hi, lo, hr⟩ := core a5
      clear core
      have hu5 : u 5 = M := by rw [a7, f2, u64_wr]; omega
      have hc : ¬ lost q K = 0 ∧ ¬ lost q K = 1 := by rw [← F3, ← a8]; exact ⟨a10, a9⟩
      rw [if_neg (by omega)] at hr
      have hx : u 5 = (M : Int) + 0 := by rw [hu5]; omega
      obtain ⟨g1, g2, g3, g4, g5⟩ := five (s := 0) (I := 9218868437227405312) (by decide) (by decide) (by omega) hT (fun h => lo (by omega)) hr hx (E1 := u 3 + K + 1076) (by omega) (E2 := u 3 + K + 1075) (by omega)
      exact ⟨trivial, g2 b0 b1, trivial⟩
    · intro a1 a2 a3 a4 a5 a6 a7 a8 a9 a10 b0 b1
      obtain ⟨M, f2, hi, lo, hr⟩ := core a5
      clear core
      have hu5 : u 5 = M := by rw [a7, f2, u64_wr]; omega
      have hc : ¬ lost q K = 0 ∧ ¬ lost q K = 1 := by rw [← F3, ← a8]; exact ⟨a10, a9⟩
      rw [if_neg (by omega)] at hr
      have hx : u 5 = (M : Int) + 0 := by rw [hu5]; omega
      obtain ⟨g1, g2, g3, g4, g5⟩ := five (s := 0) (I := 9218868437227405312) (by decide) (by decide) (by omega) hT (fun h => lo (by omega)) hr hx (E1 := u 3 + K + 1076) (by omega) (E2 := u 3 + K + 1075) (by omega)
      exact ⟨trivial, g3 b0 b1, trivial⟩
    · intro a1 a2 a3 a4 a5 a6 a7 a8 a9 a10 b0 b1 b2
      obtain ⟨M, f2, hi, lo, hr⟩ := core a5
      clear core
      have hu5 : u 5 = M := by rw [a7, f2, u64_wr]; omega
      have hc : ¬ lost q K = 0 ∧ ¬ lost q K = 1 := by rw [← F3, ← a8]; exact ⟨a10, a9⟩
      rw [if_neg (by omega)] at hr
      have hx : u 5 = (M : Int) + 0 := by rw [hu5]; omega
      obtain ⟨g1, g2, g3, g4, g5⟩ := five (s := 0) (I := 9218868437227405312) (by decide) (by decide) (by omega) hT (fun h => lo (by omega)) hr hx (E1 := u 3 + K + 1076) (by omega) (E2 := u 3 + K + 1075) (by omega)
      exact ⟨trivial, g4 b0 b1 b2, trivial⟩
    · intro a1 a2 a3 a4 a5 a6 a7 a8 a9 a10 b0 b1 b2
      obtain ⟨M, f2, hi, lo, hr⟩ := core a5
      clear core
      have hu5 : u 5 = M := by rw [a7, f2, u64_wr]; omega
      have hc : ¬ lost q K = 0 ∧ ¬ lost q K = 1 := by rw [← F3, ← a8]; exact ⟨a10, a9⟩
      rw [if_neg (by omega)] at hr
      have hx : u 5 = (M : Int) + 0 := by rw [hu5]; omega
      obtain ⟨g1, g2, g3, g4, g5⟩ := five (s := 0) (I := 9218868437227405312) (by decide) (by decide) (by omega) hT (fun h => lo (by omega)) hr hx (E1 := u 3 + K + 1076) (by omega) (E2 := u 3 + K + 1075) (by omega)
      exact ⟨trivial, g5 b0 b1 b2, trivial⟩
  · have c1 : (b2i (b2i (u 0 == 0) == 0) ≠ 0) = True := by simp [hz, b2i]
    have c2 : (u 0 ≠ 0) = True := by simp [hz]
    simp only [rndA1, rndOf, rndD, rndA1R, Keeps, chain, unOne, List.length, SameL, f2, nn, w64, v, bi, un, E.prop, E.den, Bi.den, Un.den, hn, Nat.beq, c1, c2, if_false, if_true, hK, hR]
    refine ⟨?_, ?_, ?_, ?_, ?_, ?_, ?_, ?_, ?_, ?_, ?_, ?_, ?_, ?_, ?_, ?_, ?_, ?_, ?_, ?_, ?_, trivial⟩
    · intro a1 a2 a3 a4 a5
      have hz2 := (or_null h1 h2).1 a5
      exact ⟨trivial, by rw [h0 (by omega)]; rfl, trivial⟩
    · intro a1 a2 a3 a4 a5 a6 a7 a8 a9 b0 b1
      obtain ⟨M, f2, hi, lo, hr⟩ := core a5
      clear core
      have hu5 : u 5 = M := by rw [a7, f2, u64_wr]; omega
      have hc : lost q K = 1 := by rw [← F3, ← a8, a9]
      rw [if_pos (.inl hc)] at hr
      have hx : IntKind.u64.wrap (u 5 + 1) = (M : Int) + 1 := by rw [hu5, u64_wr]; omega
      obtain ⟨g1, g2, g3, g4, g5⟩ := five (s := 9223372036854775808) (I := 18442240474082181120) (by decide) (by decide) (by omega) hT (fun h => lo (by omega)) hr hx (E1 := u 3 + K + 1076) (by omega) (E2 := u 3 + K + 1075) (by omega)
      exact ⟨trivial, g1 b0 b1, trivial⟩
    · intro a1 a2 a3 a4 a5 a6 a7 a8 a9 b0 b1
      obtain ⟨M, f2, hi, lo, hr⟩ := core a5
      clear core
      have hu5 : u 5 = M := by rw [a7, f2, u64_wr]; omega
      have hc : lost q K = 1 := by rw [← F3, ← a8, a9]
      rw [if_pos (.inl hc)] at hr
      have hx : IntKind.u64.wrap (u 5 + 1) = (M : Int) + 1 := by rw [hu5, u64_wr]; omega
      obtain ⟨g1, g2, g3, g4, g5⟩ := five (s := 9223372036854775808) (I := 18442240474082181120) (by decide) (by decide) (by omega) hT (fun h => lo (by omega)) hr hx (E1 := u 3 + K + 1076) (by omega) (E2 := u 3 + K + 1075) (by omega)
      exact ⟨trivial, g2 b0 b1, trivial⟩
    · intro a1 a2 a3 a4 a5 a6 a7 a8 a9 b0 b1
      obtain ⟨M, f2, hi, lo, hr⟩ := core a5
      clear core
      have hu5 : u 5 = M := by rw [a7, f2, u64_wr]; omega
      have hc : lost q K = 1 := by rw [← F3, ← a8, a9]
      rw [if_pos (.inl hc)] at hr
      have hx : IntKind.u64.wrap (u 5 + 1) = (M : Int) + 1 := by rw [hu5, u64_wr]; omega
      obtain ⟨g1, g2, g3, g4, g5⟩ := five (s := 9223372036854775808) (I := 18442240474082181120) (by decide) (by decide) (by omega) hT (fun h => lo (by omega)) hr hx (E1 := u 3 + K + 1076) (by omega) (E2 := u 3 + K + 1075) (by omega)
      exact ⟨trivial, g3 b0 b1, trivial⟩
    · intro a1 a2 a3 a4 a5 a6 a7 a8 a9 b0 b1 b2
      obtain ⟨M, f2, hi, lo, hr⟩ := core a5
      clear core
      have hu5 : u 5 = M := by rw [a7, f2, u64_wr]; omega
      have hc : lost q K = 1 := by rw [← F3, ← a8, a9]
      rw [if_pos (.inl hc)] at hr
      have hx : IntKind.u64.wrap (u 5 + 1) = (M : Int) + 1 := by rw [hu5, u64_wr]; omega
      obtain ⟨g1, g2, g3, g4, g5⟩ := five (s := 9223372036854775808) (I := 18442240474082181120) (by decide) (by decide) (by omega) hT (fun h => lo (by omega)) hr hx (E1 := u 3 + K + 1076) (by omega) (E2 := u 3 + K + 1075) (by omega)
      exact ⟨trivial, g4 b0 b1 b2, trivial⟩
    · intro a1 a2 a3 a4 a5 a6 a7 a8 a9 b0 b1 b2
      obtain ⟨M, f2, hi, lo, hr⟩ := core a5
      clear core
      have hu5 : u 5 = M := by rw [a7, f2, u64_wr]; omega
      have hc : lost q K = 1 := by rw [← F3, ← a8, a9]
      rw [if_pos (.inl hc)] at hr
      have hx : IntKind.u64.wrap (u 5 + 1) = (M : Int) + 1 := by rw [hu5, u64_wr]; omega
      obtain ⟨g1, g2, g3, g4, g5⟩ := five (s := 9223372036854775808) (I := 18442240474082181120) (by decide) (by decide) (by omega) hT (fun h => lo (by omega)) hr hx (E1 := u 3 + K + 1076) (by omega) (E2 := u 3 + K + 1075) (by omega)
      exact ⟨trivial, g5 b0 b1 b2, trivial⟩
    · intro a1 a2 a3 a4 a5 a6 a7 a8 a9 a10 a11 b0 b1
      obtain ⟨M, f2, hi, lo, hr⟩ := core a5
      clear core
      have hu5 : u 5 = M := by rw [a7, f2, u64_wr]; omega
      have hc : lost q K = 0 := by rw [← F3, ← a8, a10]
      rw [if_pos (.inr ⟨hc, by rw [hu5] at a11; omega⟩)] at hr
      have hx : IntKind.u64.wrap (u 5 + 1) = (M : Int) + 1 := by rw [hu5, u64_wr]; omega
      obtain ⟨g1, g2, g3, g4, g5⟩ := five (s := 9223372036854775808) (I := 18442240474082181120) (by decide) (by decide) (by omega) hT (fun h => lo (by omega)) hr hx (E1 := u 3 + K + 1076) (by omega) (E2 := u 3 + K + 1075) (by omega)
      exact ⟨trivial, g1 b0 b1, trivial⟩
    · intro a1 a2 a3 a4 a5 a6 a7 a8 a9 a10 a11 b0 b1
      obtain ⟨M, f2, hi, lo, hr⟩ := core a5
      clear core
      have hu5 : u 5 = M := by rw [a7, f2, u64_wr]; omega
      have hc : lost q K = 0 := by rw [← F3, ← a8, a10]
      rw [if_pos (.inr ⟨hc, by rw [hu5] at a11; omega⟩)] at hr
      have hx : IntKind.u64.wrap (u 5 + 1) = (M : Int) + 1 := by rw [hu5, u64_wr]; omega
      obtain ⟨g1, g2, g3, g4, g5⟩ := five (s := 9223372036854775808) (I := 18442240474082181120) (by decide) (by decide) (by omega) hT (fun h => lo (by omega)) hr hx (E1 := u 3 + K + 1076) (by omega) (E2 := u 3 + K + 1075) (by omega)
      exact ⟨trivial, g2 b0 b1, trivial⟩
    · intro a1 a2 a3 a4 a5 a6 a7 a8 a9 a10 a11 b0 b1
      obtain ⟨M, f2, hi, lo, hr⟩ := core a5
      clear core
      have hu5 : u 5 = M := by rw [a7, f2, u64_wr]; omega
      have hc : lost q K = 0 := by rw [← F3, ← a8, a10]
      rw [if_pos (.inr ⟨hc, by rw [hu5] at a11; omega⟩)] at hr
      have hx : IntKind.u64.wrap (u 5 + 1) = (M : Int) + 1 := by rw [hu5, u64_wr]; omega
      obtain ⟨g1, g2, g3, g4, g5⟩ := five (s := 9223372036854775808) (I := 18442240474082181120) (by decide) (by decide) (by omega) hT (fun h => lo (by omega)) hr hx (E1 := u 3 + K + 1076) (by omega) (E2 := u 3 + K + 1075) (by omega)
      exact ⟨trivial, g3 b0 b1, trivial⟩
    · intro a1 a2 a3 a4 a5 a6 a7 a8 a9 a10 a11 b0 b1 b2
      obtain ⟨M, f2, hi, lo, hr⟩ := core a5
      clear core
      have hu5 : u 5 = M := by rw [a7, f2, u64_wr]; omega
      have hc : lost q K = 0 := by rw [← F3, ← a8, a10]
      rw [if_pos (.inr ⟨hc, by rw [hu5] at a11; omega⟩)] at hr
      have hx : IntKind.u64.wrap (u 5 + 1) = (M : Int) + 1 := by rw [hu5, u64_wr]; omega
      obtain ⟨g1, g2, g3, g4, g5⟩ := five (s := 9223372036854775808) (I := 18442240474082181120) (by decide) (by decide) (by omega) hT (fun h => lo (by omega)) hr hx (E1 := u 3 + K + 1076) (by omega) (E2 := u 3 + K + 1075) (by omega)
      exact ⟨trivial, g4 b0 b1 b2, trivial⟩
    · intro a1 a2 a3 a4 a5 a6 a7 a8 a9 a10 a11 b0 b1 b2
      obtain ⟨M, f2, hi, lo, hr⟩ := core a5
      clear core
      have hu5 : u 5 = M := by rw [a7, f2, u64_wr]; omega
      have hc : lost q K = 0 := by rw [← F3, ← a8, a10]
      rw [if_pos (.inr ⟨hc, by rw [hu5] at a11; omega⟩)] at hr
      have hx : IntKind.u64.wrap (u 5 + 1) = (M : Int) + 1 := by rw [hu5, u64_wr]; omega
      obtain ⟨g1, g2, g3, g4, g5⟩ := five (s := 9223372036854775808) (I := 18442240474082181120) (by decide) (by decide) (by omega) hT (fun h => lo (by omega)) hr hx (E1 := u 3 + K + 1076) (by omega) (E2 := u 3 + K + 1075) (by omega)
      exact ⟨trivial, g5 b0 b1 b2, trivial⟩
    · intro a1 a2 a3 a4 a5 a6 a7 a8 a9 a10 a11 b0 b1
      obtain ⟨M, f2, hi, lo, hr⟩ := core a5
      clear core
      have hu5 : u 5 = M := by rw [a7, f2, u64_wr]; omega
      have hc : lost q K = 0 := by rw [← F3, ← a8, a10]
      rw [if_neg (by rw [hu5] at a11; omega)] at hr
      have hx : u 5 = (M : Int) + 0 := by rw [hu5]; omega
      obtain ⟨g1, g2, g3, g4, g5⟩ := five (s := 9223372036854775808) (I := 18442240474082181120) (by decide) (by decide) (by omega) hT (fun h => lo (by omega)) hr hx (E1 := u 3 + K + 1076) (by omega) (E2 := u 3 + K + 1075) (by omega)
      exact ⟨trivial, g1 b0 b1, trivial⟩
    · intro a1 a2 a3 a4 a5 a6 a7 a8 a9 a10 a11 b0 b1
      obtain ⟨M, f2, hi, lo, hr⟩ := core a5
      clear core
      have hu5 : u 5 = M := by rw [a7, f2, u64_wr]; omega
      have hc : lost q K = 0 := by rw [← F3, ← a8, a10]
      rw [if_neg (by rw [hu5] at a11; omega)] at hr
      have hx : u 5 = (M : Int) + 0 := by rw [hu5]; omega
      obtain ⟨g1, g2, g3, g4, g5⟩ := five (s := 9223372036854775808) (I := 18442240474082181120) (by decide) (by decide) (by omega) hT (fun h => lo (by omega)) hr hx (E1 := u 3 + K + 1076) (by omega) (E2 := u 3 + K + 1075) (by omega)
      exact ⟨trivial, g2 b0 b1, trivial⟩
    · intro a1 a2 a3 a4 a5 a6 a7 a8 a9 a10 a11 b0 b1
      obtain ⟨M, f2, hi, lo, hr⟩ := core a5
      clear core
      have hu5 : u 5 = M := by rw [a7, f2, u64_wr]; omega
      have hc : lost q K = 0 := by rw [← F3, ← a8, a10]
      rw [if_neg (by rw [hu5] at a11; omega)] at hr
      have hx : u 5 = (M : Int) + 0 := by rw [hu5]; omega
      obtain ⟨g1, g2, g3, g4, g5⟩ := five (s := 9223372036854775808) (I := 18442240474082181120) (by decide) (by decide) (by omega) hT (fun h => lo (by omega)) hr hx (E1 := u 3 + K + 1076) (by omega) (E2 := u 3 + K + 1075) (by omega)
      exact ⟨trivial, g3 b0 b1, trivial⟩
    · intro a1 a2 a3 a4 a5 a6 a7 a8 a9 a10 a11 b0 b1 b2
      obtain ⟨M, f2, hi, lo, hr⟩ := core a5
      clear core
      have hu5 : u 5 = M := by rw [a7, f2, u64_wr]; omega
      have hc : lost q K = 0 := by rw [← F3, ← a8, a10]
      rw [if_neg (by rw [hu5] at a11; omega)] at hr
      have hx : u 5 = (M : Int) + 0 := by rw [hu5]; omega
      obtain ⟨g1, g2, g3, g4, g5⟩ := five (s := 9223372036854775808) (I := 18442240474082181120) (by decide) (by decide) (by omega) hT (fun h => lo (by omega)) hr hx (E1 := u 3 + K + 1076) (by omega) (E2 := u 3 + K + 1075) (by omega)
      exact ⟨trivial, g4 b0 b1 b2, trivial⟩
    · intro a1 a2 a3 a4 a5 a6 a7 a8 a9 a10 a11 b0 b1 b2
      obtain ⟨M, f2, hi, lo, hr⟩ := core a5
      clear core
      have hu5 : u 5 = M := by rw [a7, f2, u64_wr]; omega
      have hc : lost q K = 0 := by rw [← F3, ← a8, a10]
      rw [if_neg (by rw [hu5] at a11; omega)] at hr
      have hx : u 5 = (M : Int) + 0 := by rw [hu5]; omega
      obtain ⟨g1, g2, g3, g4, g5⟩ := five (s := 9223372036854775808) (I := 18442240474082181120) (by decide) (by decide) (by omega) hT (fun h => lo (by omega)) hr hx (E1 := u 3 + K + 1076) (by omega) (E2 := u 3 + K + 1075) (by omega)
      exact ⟨trivial, g5 b0 b1 b2, trivial⟩
    · intro a1 a2 a3 a4 a5 a6 a7 a8 a9 a10 b0 b1
      obtain ⟨M, f2, hi, lo, hr⟩ := core a5
      clear core
      have hu5 : u 5 = M := by rw [a7, f2, u64_wr]; omega
      have hc : ¬ lost q K = 0 ∧ ¬ lost q K = 1 := by rw [← F3, ← a8]; exact ⟨a10, a9⟩
      rw [if_neg (by omega)] at hr
      have hx : u 5 = (M : Int) + 0 := by rw [hu5]; omega
      obtain ⟨g1, g2, g3, g4, g5⟩ := five (s := 9223372036854775808) (I := 18442240474082181120) (by decide) (by decide) (by omega) hT (fun h => lo (by omega)) hr hx (E1 := u 3 + K + 1076) (by omega) (E2 := u 3 + K + 1075) (by omega)
      exact ⟨trivial, g1 b0 b1, trivial⟩
    · intro a1 a2 a3 a4 a5 a6 a7 a8 a9 a10 b0 b1
      obtain ⟨M, f2, hi, lo, hr⟩ := core a5
      clear core
      have hu5 : u 5 = M := by rw [a7, f2, u64_wr]; omega
      have hc : ¬ lost q K = 0 ∧ ¬ lost q K = 1 := by rw [← F3, ← a8]; exact ⟨a10, a9⟩
      rw [if_neg (by omega)] at hr
      have hx : u 5 = (M : Int) + 0 := by rw [hu5]; omega
      obtain ⟨g1, g2, g3, g4, g5⟩ := five (s := 9223372036854775808) (I := 18442240474082181120) (by decide) (by decide) (by omega) hT (fun h => lo (by omega)) hr hx (E1 := u 3 + K + 1076) (by omega) (E2 := u 3 + K + 1075) (by omega)
      exact ⟨trivial, g2 b0 b1, trivial⟩
    · intro a1 a2 a3 a4 a5 a6 a7 a8 a9 a10 b0 b1
      obtain ⟨M, f2, hi, lo, hr⟩ := core a5
      clear core
      have hu5 : u 5 = M := by rw [a7, f2, u64_wr]; omega
      have hc : ¬ lost q K = 0 ∧ ¬ lost q K = 1 := by rw [← F3, ← a8]; exact ⟨a10, a9⟩
      rw [if_neg (by omega)] at hr
      have hx : u 5 = (M : Int) + 0 := by rw [hu5]; omega
      obtain ⟨g1, g2, g3, g4, g5⟩ := five (s := 9223372036854775808) (I := 18442240474082181120) (by decide) (by decide) (by omega) hT (fun h => lo (by omega)) hr hx (E1 := u 3 + K + 1076) (by omega) (E2 := u 3 + K + 1075) (by omega)
      exact ⟨trivial, g3 b0 b1, trivial⟩
    · intro a1 a2 a3 a4 a5 a6 a7 a8 a9 a10 b0 b1 b2
      obtain ⟨M, f2, hi, lo, hr⟩ := core a5
      clear core
      have hu5 : u 5 = M := by rw [a7, f2, u64_wr]; omega
      have hc : ¬ lost q K = 0 ∧ ¬ lost q K = 1 := by rw [← F3, ← a8]; exact ⟨a10, a9⟩
      rw [if_neg (by omega)] at hr
      have hx : u 5 = (M : Int) + 0 := by rw [hu5]; omega
      obtain ⟨g1, g2, g3, g4, g5⟩ := five (s := 9223372036854775808) (I := 18442240474082181120) (by decide) (by decide) (by omega) hT (fun h => lo (by omega)) hr hx (E1 := u 3 + K + 1076) (by omega) (E2 := u 3 + K + 1075) (by omega)
      exact ⟨trivial, g4 b0 b1 b2, trivial⟩
    · intro a1 a2 a3 a4 a5 a6 a7 a8 a9 a10 b0 b1 b2
      obtain ⟨M, f2, hi, lo, hr⟩ := core a5
      clear core
      have hu5 : u 5 = M := by rw [a7, f2, u64_wr]; omega
      have hc : ¬ lost q K = 0 ∧ ¬ lost q K = 1 := by rw [← F3, ← a8]; exact ⟨a10, a9⟩
      rw [if_neg (by omega)] at hr
      have hx : u 5 = (M : Int) + 0 := by rw [hu5]; omega
      obtain ⟨g1, g2, g3, g4, g5⟩ := five (s := 9223372036854775808) (I := 18442240474082181120) (by decide) (by decide) (by omega) hT (fun h => lo (by omega)) hr hx (E1 := u 3 + K + 1076) (by omega) (E2 := u 3 + K + 1075) (by omega)
      exact ⟨trivial, g5 b0 b1 b2, trivial⟩
end Go.Proofs.Ytnodelimomljbaa.PlainRndA1

/- The ways of the reference's floats through numbers, and that the code takes no other. No condition. -/
namespace Go.Proofs.Ytnodelimomljbaa.RunRndB0
open Go Go.Sx Go.Sx.Flt Go.Sx.Ref

def rndB0R : List Leaf := [
  ([(.bin .eq (.bin (.bits .or .u64) (.var 1) (.var 2)) (.lit 0)), (.bin .lt (.bin .add (.fn 0 (.bin .add (.bin .mul (.var 1) (.lit 18446744073709551616)) (.var 2)) (.lit 0) (.lit 0)) (.lit (-53))) (.lit 0)), (.bin .le (.bin .sub (.lit (-1074)) (.var 3)) (.bin .add (.fn 0 (.bin .add (.bin .mul (.var 1) (.lit 18446744073709551616)) (.var 2)) (.lit 0) (.lit 0)) (.lit (-53)))), (.bin .le (.lit (-5000)) (.var 3)), (.bin .le (.var 3) (.lit 5000))], (.int .u64 (.ite (.un .bnot (.un .bnot (.var 0))) (.lit 9223372036854775808) (.lit 0)))),
  ([(.bin .le (.lit 2047) (.bin .add (.bin .add (.var 3) (.bin .add (.fn 0 (.bin .add (.bin .mul (.var 1) (.lit 18446744073709551616)) (.var 2)) (.lit 0) (.lit 0)) (.lit (-53)))) (.lit 1076))), (.bin .eq (.un (.wrap .u64) (.bin .add (.var 5) (.lit 1))) (.lit 9007199254740992)), (.bin .eq (.var 6) (.lit 1)), (.bin .eq (.var 6) (.fn 3 (.bin .add (.lit 0) (.bin (.shl .u64) (.var 2) (.bin .sub (.lit 0) (.bin .add (.fn 0 (.bin .add (.bin .mul (.var 1) (.lit 18446744073709551616)) (.var 2)) (.lit 0) (.lit 0)) (.lit (-53)))))) (.bin .add (.fn 0 (.bin .add (.bin .mul (.var 1) (.lit 18446744073709551616)) (.var 2)) (.lit 0) (.lit 0)) (.lit (-53))) (.lit 0))), (.bin .eq (.var 5) (.un (.wrap .u64) (.fn 2 (.bin .add (.lit 0) (.bin (.shl .u64) (.var 2) (.bin .sub (.lit 0) (.bin .add (.fn 0 (.bin .add (.bin .mul (.var 1) (.lit 18446744073709551616)) (.var 2)) (.lit 0) (.lit 0)) (.lit (-53)))))) (.bin .add (.fn 0 (.bin .add (.bin .mul (.var 1) (.lit 18446744073709551616)) (.var 2)) (.lit 0) (.lit 0)) (.lit (-53))) (.lit 0)))), (.bin .eq (.var 4) (.un (.wrap .u64) (.bin .ediv (.fn 2 (.bin .add (.lit 0) (.bin (.shl .u64) (.var 2) (.bin .sub (.lit 0) (.bin .add (.fn 0 (.bin .add (.bin .mul (.var 1) (.lit 18446744073709551616)) (.var 2)) (.lit 0) (.lit 0)) (.lit (-53)))))) (.bin .add (.fn 0 (.bin .add (.bin .mul (.var 1) (.lit 18446744073709551616)) (.var 2)) (.lit 0) (.lit 0)) (.lit (-53))) (.lit 0)) (.lit 18446744073709551616)))), (.un .bnot (.bin .eq (.bin (.bits .or .u64) (.var 1) (.var 2)) (.lit 0))), (.bin .lt (.bin .add (.fn 0 (.bin .add (.bin .mul (.var 1) (.lit 18446744073709551616)) (.var 2)) (.lit 0) (.lit 0)) (.lit (-53))) (.lit 0)), (.bin .le (.bin .sub (.lit (-1074)) (.var 3)) (.bin .add (.fn 0 (.bin .add (.bin .mul (.var 1) (.lit 18446744073709551616)) (.var 2)) (.lit 0) (.lit 0)) (.lit (-53)))), (.bin .le (.lit (-5000)) (.var 3)), (.bin .le (.var 3) (.lit 5000))], (.int .u64 (.ite (.un .bnot (.un .bnot (.var 0))) (.lit 18442240474082181120) (.lit 9218868437227405312)))),
  ([(.bin .lt (.bin .add (.bin .add (.var 3) (.bin .add (.fn 0 (.bin .add (.bin .mul (.var 1) (.lit 18446744073709551616)) (.var 2)) (.lit 0) (.lit 0)) (.lit (-53)))) (.lit 1076)) (.lit 2047)), (.bin .eq (.un (.wrap .u64) (.bin .add (.var 5) (.lit 1))) (.lit 9007199254740992)), (.bin .eq (.var 6) (.lit 1)), (.bin .eq (.var 6) (.fn 3 (.bin .add (.lit 0) (.bin (.shl .u64) (.var 2) (.bin .sub (.lit 0) (.bin .add (.fn 0 (.bin .add (.bin .mul (.var 1) (.lit 18446744073709551616)) (.var 2)) (.lit 0) (.lit 0)) (.lit (-53)))))) (.bin .add (.fn 0 (.bin .add (.bin .mul (.var 1) (.lit 18446744073709551616)) (.var 2)) (.lit 0) (.lit 0)) (.lit (-53))) (.lit 0))), (.bin .eq (.var 5) (.un (.wrap .u64) (.fn 2 (.bin .add (.lit 0) (.bin (.shl .u64) (.var 2) (.bin .sub (.lit 0) (.bin .add (.fn 0 (.bin .add (.bin .mul (.var 1) (.lit 18446744073709551616)) (.var 2)) (.lit 0) (.lit 0)) (.lit (-53)))))) (.bin .add (.fn 0 (.bin .add (.bin .mul (.var 1) (.lit 18446744073709551616)) (.var 2)) (.lit 0) (.lit 0)) (.lit (-53))) (.lit 0)))), (.bin .eq (.var 4) (.un (.wrap .u64) (.bin .ediv (.fn 2 (.bin .add (.lit 0) (.bin (.shl .u64) (.var 2) (.bin .sub (.lit 0) (.bin .add (.fn 0 (.bin .add (.bin .mul (.var 1) (.lit 18446744073709551616)) (.var 2)) (.lit 0) (.lit 0)) (.lit (-53)))))) (.bin .add (.fn 0 (.bin .add (.bin .mul (.var 1) (.lit 18446744073709551616)) (.var 2)) (.lit 0) (.lit 0)) (.lit (-53))) (.lit 0)) (.lit 18446744073709551616)))), (.un .bnot (.bin .eq (.bin (.bits .or .u64) (.var 1) (.var 2)) (.lit 0))), (.bin .lt (.bin .add (.fn 0 (.bin .add (.bin .mul (.var 1) (.lit 18446744073709551616)) (.var 2)) (.lit 0) (.lit 0)) (.lit (-53))) (.lit 0)), (.bin .le (.bin .sub (.lit (-1074)) (.var 3)) (.bin .add (.fn 0 (.bin .add (.bin .mul (.var 1) (.lit 18446744073709551616)) (.var 2)) (.lit 0) (.lit 0)) (.lit (-53)))), (.bin .le (.lit (-5000)) (.var 3)), (.bin .le (.var 3) (.lit 5000))], (.int .u64 (.bin (.bits .or .u64) (.bin (.bits .or .u64) (.ite (.un .bnot (.un .bnot (.var 0))) (.lit 9223372036854775808) (.lit 0)) (.un (.wrap .u64) (.bin .mul (.un (.wrap .u64) (.bin .add (.bin .add (.var 3) (.bin .add (.fn 0 (.bin .add (.bin .mul (.var 1) (.lit 18446744073709551616)) (.var 2)) (.lit 0) (.lit 0)) (.lit (-53)))) (.lit 1076))) (.lit 4503599627370496)))) (.bin .emod (.bin .ediv (.un (.wrap .u64) (.bin .add (.var 5) (.lit 1))) (.lit 2)) (.lit 4503599627370496))))),
  ([(.bin .lt (.un (.wrap .u64) (.bin .add (.var 5) (.lit 1))) (.lit 4503599627370496)), (.un .bnot (.bin .eq (.un (.wrap .u64) (.bin .add (.var 5) (.lit 1))) (.lit 9007199254740992))), (.bin .eq (.var 6) (.lit 1)), (.bin .eq (.var 6) (.fn 3 (.bin .add (.lit 0) (.bin (.shl .u64) (.var 2) (.bin .sub (.lit 0) (.bin .add (.fn 0 (.bin .add (.bin .mul (.var 1) (.lit 18446744073709551616)) (.var 2)) (.lit 0) (.lit 0)) (.lit (-53)))))) (.bin .add (.fn 0 (.bin .add (.bin .mul (.var 1) (.lit 18446744073709551616)) (.var 2)) (.lit 0) (.lit 0)) (.lit (-53))) (.lit 0))), (.bin .eq (.var 5) (.un (.wrap .u64) (.fn 2 (.bin .add (.lit 0) (.bin (.shl .u64) (.var 2) (.bin .sub (.lit 0) (.bin .add (.fn 0 (.bin .add (.bin .mul (.var 1) (.lit 18446744073709551616)) (.var 2)) (.lit 0) (.lit 0)) (.lit (-53)))))) (.bin .add (.fn 0 (.bin .add (.bin .mul (.var 1) (.lit 18446744073709551616)) (.var 2)) (.lit 0) (.lit 0)) (.lit (-53))) (.lit 0)))), (.bin .eq (.var 4) (.un (.wrap .u64) (.bin .ediv (.fn 2 (.bin .add (.lit 0) (.bin (.shl .u64) (.var 2) (.bin .sub (.lit 0) (.bin .add (.fn 0 (.bin .add (.bin .mul (.var 1) (.lit 18446744073709551616)) (.var 2)) (.lit 0) (.lit 0)) (.lit (-53)))))) (.bin .add (.fn 0 (.bin .add (.bin .mul (.var 1) (.lit 18446744073709551616)) (.var 2)) (.lit 0) (.lit 0)) (.lit (-53))) (.lit 0)) (.lit 18446744073709551616)))), (.un .bnot (.bin .eq (.bin (.bits .or .u64) (.var 1) (.var 2)) (.lit 0))), (.bin .lt (.bin .add (.fn 0 (.bin .add (.bin .mul (.var 1) (.lit 18446744073709551616)) (.var 2)) (.lit 0) (.lit 0)) (.lit (-53))) (.lit 0)), (.bin .le (.bin .sub (.lit (-1074)) (.var 3)) (.bin .add (.fn 0 (.bin .add (.bin .mul (.var 1) (.lit 18446744073709551616)) (.var 2)) (.lit 0) (.lit 0)) (.lit (-53)))), (.bin .le (.lit (-5000)) (.var 3)), (.bin .le (.var 3) (.lit 5000))], (.int .u64 (.bin (.bits .or .u64) (.ite (.un .bnot (.un .bnot (.var 0))) (.lit 9223372036854775808) (.lit 0)) (.un (.wrap .u64) (.bin .add (.var 5) (.lit 1)))))),
  ([(.bin .le (.lit 2047) (.bin .add (.bin .add (.var 3) (.bin .add (.fn 0 (.bin .add (.bin .mul (.var 1) (.lit 18446744073709551616)) (.var 2)) (.lit 0) (.lit 0)) (.lit (-53)))) (.lit 1075))), (.bin .le (.lit 4503599627370496) (.un (.wrap .u64) (.bin .add (.var 5) (.lit 1)))), (.un .bnot (.bin .eq (.un (.wrap .u64) (.bin .add (.var 5) (.lit 1))) (.lit 9007199254740992))), (.bin .eq (.var 6) (.lit 1)), (.bin .eq (.var 6) (.fn 3 (.bin .add (.lit 0) (.bin (.shl .u64) (.var 2) (.bin .sub (.lit 0) (.bin .add (.fn 0 (.bin .add (.bin .mul (.var 1) (.lit 18446744073709551616)) (.var 2)) (.lit 0) (.lit 0)) (.lit (-53)))))) (.bin .add (.fn 0 (.bin .add (.bin .mul (.var 1) (.lit 18446744073709551616)) (.var 2)) (.lit 0) (.lit 0)) (.lit (-53))) (.lit 0))), (.bin .eq (.var 5) (.un (.wrap .u64) (.fn 2 (.bin .add (.lit 0) (.bin (.shl .u64) (.var 2) (.bin .sub (.lit 0) (.bin .add (.fn 0 (.bin .add (.bin .mul (.var 1) (.lit 18446744073709551616)) (.var 2)) (.lit 0) (.lit 0)) (.lit (-53)))))) (.bin .add (.fn 0 (.bin .add (.bin .mul (.var 1) (.lit 18446744073709551616)) (.var 2)) (.lit 0) (.lit 0)) (.lit (-53))) (.lit 0)))), (.bin .eq (.var 4) (.un (.wrap .u64) (.bin .ediv (.fn 2 (.bin .add (.lit 0) (.bin (.shl .u64) (.var 2) (.bin .sub (.lit 0) (.bin .add (.fn 0 (.bin .add (.bin .mul (.var 1) (.lit 18446744073709551616)) (.var 2)) (.lit 0) (.lit 0)) (.lit (-53)))))) (.bin .add (.fn 0 (.bin .add (.bin .mul (.var 1) (.lit 18446744073709551616)) (.var 2)) (.lit 0) (.lit 0)) (.lit (-53))) (.lit 0)) (.lit 18446744073709551616)))), (.un .bnot (.bin .eq (.bin (.bits .or .u64) (.var 1) (.var 2)) (.lit 0))), (.bin .lt (.bin .add (.fn 0 (.bin .add (.bin .mul (.var 1) (.lit 18446744073709551616)) (.var 2)) (.lit 0) (.lit 0)) (.lit (-53))) (.lit 0)), (.bin .le (.bin .sub (.lit (-1074)) (.var 3)) (.bin .add (.fn 0 (.bin .add (.bin .mul (.var 1) (.lit 18446744073709551616)) (.var 2)) (.lit 0) (.lit 0)) (.lit (-53)))), (.bin .le (.lit (-5000)) (.var 3)), (.bin .le (.var 3) (.lit 5000))], (.int .u64 (.ite (.un .bnot (.un .bnot (.var 0))) (.lit 18442240474082181120) (.lit 9218868437227405312)))),
  ([(.bin .lt (.bin .add (.bin .add (.var 3) (.bin .add (.fn 0 (.bin .add (.bin .mul (.var 1) (.lit 18446744073709551616)) (.var 2)) (.lit 0) (.lit 0)) (.lit (-53)))) (.lit 1075)) (.lit 2047)), (.bin .le (.lit 4503599627370496) (.un (.wrap .u64) (.bin .add (.var 5) (.lit 1)))), (.un .bnot (.bin .eq (.un (.wrap .u64) (.bin .add (.var 5) (.lit 1))) (.lit 9007199254740992))), (.bin .eq (.var 6) (.lit 1)), (.bin .eq (.var 6) (.fn 3 (.bin .add (.lit 0) (.bin (.shl .u64) (.var 2) (.bin .sub (.lit 0) (.bin .add (.fn 0 (.bin .add (.bin .mul (.var 1) (.lit 18446744073709551616)) (.var 2)) (.lit 0) (.lit 0)) (.lit (-53)))))) (.bin .add (.fn 0 (.bin .add (.bin .mul (.var 1) (.lit 18446744073709551616)) (.var 2)) (.lit 0) (.lit 0)) (.lit (-53))) (.lit 0))), (.bin .eq (.var 5) (.un (.wrap .u64) (.fn 2 (.bin .add (.lit 0) (.bin (.shl .u64) (.var 2) (.bin .sub (.lit 0) (.bin .add (.fn 0 (.bin .add (.bin .mul (.var 1) (.lit 18446744073709551616)) (.var 2)) (.lit 0) (.lit 0)) (.lit (-53)))))) (.bin .add (.fn 0 (.bin .add (.bin .mul (.var 1) (.lit 18446744073709551616)) (.var 2)) (.lit 0) (.lit 0)) (.lit (-53))) (.lit 0)))), (.bin .eq (.var 4) (.un (.wrap .u64) (.bin .ediv (.fn 2 (.bin .add (.lit 0) (.bin (.shl .u64) (.var 2) (.bin .sub (.lit 0) (.bin .add (.fn 0 (.bin .add (.bin .mul (.var 1) (.lit 18446744073709551616)) (.var 2)) (.lit 0) (.lit 0)) (.lit (-53)))))) (.bin .add (.fn 0 (.bin .add (.bin .mul (.var 1) (.lit 18446744073709551616)) (.var 2)) (.lit 0) (.lit 0)) (.lit (-53))) (.lit 0)) (.lit 18446744073709551616)))), (.un .bnot (.bin .eq (.bin (.bits .or .u64) (.var 1) (.var 2)) (.lit 0))), (.bin .lt (.bin .add (.fn 0 (.bin .add (.bin .mul (.var 1) (.lit 18446744073709551616)) (.var 2)) (.lit 0) (.lit 0)) (.lit (-53))) (.lit 0)), (.bin .le (.bin .sub (.lit (-1074)) (.var 3)) (.bin .add (.fn 0 (.bin .add (.bin .mul (.var 1) (.lit 18446744073709551616)) (.var 2)) (.lit 0) (.lit 0)) (.lit (-53)))), (.bin .le (.lit (-5000)) (.var 3)), (.bin .le (.var 3) (.lit 5000))], (.int .u64 (.bin (.bits .or .u64) (.bin (.bits .or .u64) (.ite (.un .bnot (.un .bnot (.var 0))) (.lit 9223372036854775808) (.lit 0)) (.un (.wrap .u64) (.bin .mul (.un (.wrap .u64) (.bin .add (.bin .add (.var 3) (.bin .add (.fn 0 (.bin .add (.bin .mul (.var 1) (.lit 18446744073709551616)) (.var 2)) (.lit 0) (.lit 0)) (.lit (-53)))) (.lit 1075))) (.lit 4503599627370496)))) (.bin .emod (.un (.wrap .u64) (.bin .add (.var 5) (.lit 1))) (.lit 4503599627370496))))),
  ([(.bin .le (.lit 2047) (.bin .add (.bin .add (.var 3) (.bin .add (.fn 0 (.bin .add (.bin .mul (.var 1) (.lit 18446744073709551616)) (.var 2)) (.lit 0) (.lit 0)) (.lit (-53)))) (.lit 1076))), (.bin .eq (.un (.wrap .u64) (.bin .add (.var 5) (.lit 1))) (.lit 9007199254740992)), (.bin .eq (.bin .emod (.var 5) (.lit 2)) (.lit 1)), (.bin .eq (.var 6) (.lit 0)), (.un .bnot (.bin .eq (.var 6) (.lit 1))), (.bin .eq (.var 6) (.fn 3 (.bin .add (.lit 0) (.bin (.shl .u64) (.var 2) (.bin .sub (.lit 0) (.bin .add (.fn 0 (.bin .add (.bin .mul (.var 1) (.lit 18446744073709551616)) (.var 2)) (.lit 0) (.lit 0)) (.lit (-53)))))) (.bin .add (.fn 0 (.bin .add (.bin .mul (.var 1) (.lit 18446744073709551616)) (.var 2)) (.lit 0) (.lit 0)) (.lit (-53))) (.lit 0))), (.bin .eq (.var 5) (.un (.wrap .u64) (.fn 2 (.bin .add (.lit 0) (.bin (.shl .u64) (.var 2) (.bin .sub (.lit 0) (.bin .add (.fn 0 (.bin .add (.bin .mul (.var 1) (.lit 18446744073709551616)) (.var 2)) (.lit 0) (.lit 0)) (.lit (-53)))))) (.bin .add (.fn 0 (.bin .add (.bin .mul (.var 1) (.lit 18446744073709551616)) (.var 2)) (.lit 0) (.lit 0)) (.lit (-53))) (.lit 0)))), (.bin .eq (.var 4) (.un (.wrap .u64) (.bin .ediv (.fn 2 (.bin .add (.lit 0) (.bin (.shl .u64) (.var 2) (.bin .sub (.lit 0) (.bin .add (.fn 0 (.bin .add (.bin .mul (.var 1) (.lit 18446744073709551616)) (.var 2)) (.lit 0) (.lit 0)) (.lit (-53)))))) (.bin .add (.fn 0 (.bin .add (.bin .mul (.var 1) (.lit 18446744073709551616)) (.var 2)) (.lit 0) (.lit 0)) (.lit (-53))) (.lit 0)) (.lit 18446744073709551616)))), (.un .bnot (.bin .eq (.bin (.bits .or .u64) (.var 1) (.var 2)) (.lit 0))), (.bin .lt (.bin .add (.fn 0 (.bin .add (.bin .mul (.var 1) (.lit 18446744073709551616)) (.var 2)) (.lit 0) (.lit 0)) (.lit (-53))) (.lit 0)), (.bin .le (.bin .sub (.lit (-1074)) (.var 3)) (.bin .add (.fn 0 (.bin .add (.bin .mul (.var 1) (.lit 18446744073709551616)) (.var 2)) (.lit 0) (.lit 0)) (.lit (-53)))), (.bin .le (.lit (-5000)) (.var 3)), (.bin .le (.var 3) (.lit 5000))], (.int .u64 (.ite (.un .bnot (.un .bnot (.var 0))) (.lit 18442240474082181120) (.lit 9218868437227405312)))),
  ([(.bin .lt (.bin .add (.bin .add (.var 3) (.bin .add (.fn 0 (.bin .add (.bin .mul (.var 1) (.lit 18446744073709551616)) (.var 2)) (.lit 0) (.lit 0)) (.lit (-53)))) (.lit 1076)) (.lit 2047)), (.bin .eq (.un (.wrap .u64) (.bin .add (.var 5) (.lit 1))) (.lit 9007199254740992)), (.bin .eq (.bin .emod (.var 5) (.lit 2)) (.lit 1)), (.bin .eq (.var 6) (.lit 0)), (.un .bnot (.bin .eq (.var 6) (.lit 1))), (.bin .eq (.var 6) (.fn 3 (.bin .add (.lit 0) (.bin (.shl .u64) (.var 2) (.bin .sub (.lit 0) (.bin .add (.fn 0 (.bin .add (.bin .mul (.var 1) (.lit 18446744073709551616)) (.var 2)) (.lit 0) (.lit 0)) (.lit (-53)))))) (.bin .add (.fn 0 (.bin .add (.bin .mul (.var 1) (.lit 18446744073709551616)) (.var 2)) (.lit 0) (.lit 0)) (.lit (-53))) (.lit 0))), (.bin .eq (.var 5) (.un (.wrap .u64) (.fn 2 (.bin .add (.lit 0) (.bin (.shl .u64) (.var 2) (.bin .sub (.lit 0) (.bin .add (.fn 0 (.bin .add (.bin .mul (.var 1) (.lit 18446744073709551616)) (.var 2)) (.lit 0) (.lit 0)) (.lit (-53)))))) (.bin .add (.fn 0 (.bin .add (.bin .mul (.var 1) (.lit 18446744073709551616)) (.var 2)) (.lit 0) (.lit 0)) (.lit (-53))) (.lit 0)))), (.bin .eq (.var 4) (.un (.wrap .u64) (.bin .ediv (.fn 2 (.bin .add (.lit 0) (.bin (.shl .u64) (.var 2) (.bin .sub (.lit 0) (.bin .add (.fn 0 (.bin .add (.bin .mul (.var 1) (.lit 18446744073709551616)) (.var 2)) (.lit 0) (.lit 0)) (.lit (-53)))))) (.bin .add (.fn 0 (.bin .add (.bin .mul (.var 1) (.lit 18446744073709551616)) (.var 2)) (.lit 0) (.lit 0)) (.lit (-53))) (.lit 0)) (.lit 18446744073709551616)))), (.un .bnot (.bin .eq (.bin (.bits .or .u64) (.var 1) (.var 2)) (.lit 0))), (.bin .lt (.bin .add (.fn 0 (.bin .add (.bin .mul (.var 1) (.lit 18446744073709551616)) (.var 2)) (.lit 0) (.lit 0)) (.lit (-53))) (.lit 0)), (.bin .le (.bin .sub (.lit (-1074)) (.var 3)) (.bin .add (.fn 0 (.bin .add (.bin .mul (.var 1) (.lit 18446744073709551616)) (.var 2)) (.lit 0) (.lit 0)) (.lit (-53)))), (.bin .le (.lit (-5000)) (.var 3)), (.bin .le (.var 3) (.lit 5000))], (.int .u64 (.bin (.bits .or .u64) (.bin (.bits .or .u64) (.ite (.un .bnot (.un .bnot (.var 0))) (.lit 9223372036854775808) (.lit 0)) (.un (.wrap .u64) (.bin .mul (.un (.wrap .u64) (.bin .add (.bin .add (.var 3) (.bin .add (.fn 0 (.bin .add (.bin .mul (.var 1) (.lit 18446744073709551616)) (.var 2)) (.lit 0) (.lit 0)) (.lit (-53)))) (.lit 1076))) (.lit 4503599627370496)))) (.bin .emod (.bin .ediv (.un (.wrap .u64) (.bin .add (.var 5) (.lit 1))) (.lit 2)) (.lit 4503599627370496))))),
  ([(.bin .lt (.un (.wrap .u64) (.bin .add (.var 5) (.lit 1))) (.lit 4503599627370496)), (.un .bnot (.bin .eq (.un (.wrap .u64) (.bin .add (.var 5) (.lit 1))) (.lit 9007199254740992))), (.bin .eq (.bin .emod (.var 5) (.lit 2)) (.lit 1)), (.bin .eq (.var 6) (.lit 0)), (.un .bnot (.bin .eq (.var 6) (.lit 1))), (.bin .eq (.var 6) (.fn 3 (.bin .add (.lit 0) (.bin (.shl .u64) (.var 2) (.bin .sub (.lit 0) (.bin .add (.fn 0 (.bin .add (.bin .mul (.var 1) (.lit 18446744073709551616)) (.var 2)) (.lit 0) (.lit 0)) (.lit (-53)))))) (.bin .add (.fn 0 (.bin .add (.bin .mul (.var 1) (.lit 18446744073709551616)) (.var 2)) (.lit 0) (.lit 0)) (.lit (-53))) (.lit 0))), (.bin .eq (.var 5) (.un (.wrap .u64) (.fn 2 (.bin .add (.lit 0) (.bin (.shl .u64) (.var 2) (.bin .sub (.lit 0) (.bin .add (.fn 0 (.bin .add (.bin .mul (.var 1) (.lit 18446744073709551616)) (.var 2)) (.lit 0) (.lit 0)) (.lit (-53)))))) (.bin .add (.fn 0 (.bin .add (.bin .mul (.var 1) (.lit 18446744073709551616)) (.var 2)) (.lit 0) (.lit 0)) (.lit (-53))) (.lit 0)))), (.bin .eq (.var 4) (.un (.wrap .u64) (.bin .ediv (.fn 2 (.bin .add (.lit 0) (.bin (.shl .u64) (.var 2) (.bin .sub (.lit 0) (.bin .add (.fn 0 (.bin .add (.bin .mul (.var 1) (.lit 18446744073709551616)) (.var 2)) (.lit 0) (.lit 0)) (.lit (-53)))))) (.bin .add (.fn 0 (.bin .add (.bin .mul (.var 1) (.lit 18446744073709551616)) (.var 2)) (.lit 0) (.lit 0)) (.lit (-53))) (.lit 0)) (.lit 18446744073709551616)))), (.un .bnot (.bin .eq (.bin (.bits .or .u64) (.var 1) (.var 2)) (.lit 0))), (.bin .lt (.bin .add (.fn 0 (.bin .add (.bin .mul (.var 1) (.lit 18446744073709551616)) (.var 2)) (.lit 0) (.lit 0)) (.lit (-53))) (.lit 0)), (.bin .le (.bin .sub (.lit (-1074)) (.var 3)) (.bin .add (.fn 0 (.bin .add (.bin .mul (.var 1) (.lit 18446744073709551616)) (.var 2)) (.lit 0) (.lit 0)) (.lit (-53)))), (.bin .le (.lit (-5000)) (.var 3)), (.bin .le (.var 3) (.lit 5000))], (.int .u64 (.bin (.bits .or .u64) (.ite (.un .bnot (.un .bnot (.var 0))) (.lit 9223372036854775808) (.lit 0)) (.un (.wrap .u64) (.bin .add (.var 5) (.lit 1)))))),
  ([(.bin .le (.lit 2047) (.bin .add (.bin .add (.var 3) (.bin .add (.fn 0 (.bin .add (.bin .mul (.var 1) (.lit 18446744073709551616)) (.var 2)) (.lit 0) (.lit 0)) (.lit (-53)))) (.lit 1075))), (.bin .le (.lit 4503599627370496) (.un (.wrap .u64) (.bin .add (.var 5) (.lit 1)))), (.un .bnot (.bin .eq (.un (.wrap .u64) (.bin .add (.var 5) (.lit 1))) (.lit 9007199254740992))), (.bin .eq (.bin .emod (.var 5) (.lit 2)) (.lit 1)), (.bin .eq (.var 6) (.lit 0)), (.un .bnot (.bin .eq (.var 6) (.lit 1))), (.bin .eq (.var 6) (.fn 3 (.bin .add (.lit 0) (.bin (.shl .u64) (.var 2) (.bin .sub (.lit 0) (.bin .add (.fn 0 (.bin .add (.bin .mul (.var 1) (.lit 18446744073709551616)) (.var 2)) (.lit 0) (.lit 0)) (.lit (-53)))))) (.bin .add (.fn 0 (.bin .add (.bin .mul (.var 1) (.lit 18446744073709551616)) (.var 2)) (.lit 0) (.lit 0)) (.lit (-53))) (.lit 0))), (.bin .eq (.var 5) (.un (.wrap .u64) (.fn 2 (.bin .add (.lit 0) (.bin (.shl .u64) (.var 2) (.bin .sub (.lit 0) (.bin .add (.fn 0 (.bin .add (.bin .mul (.var 1) (.lit 18446744073709551616)) (.var 2)) (.lit 0) (.lit 0)) (.lit (-53)))))) (.bin .add (.fn 0 (.bin .add (.bin .mul (.var 1) (.lit 18446744073709551616)) (.var 2)) (.lit 0) (.lit 0)) (.lit (-53))) (.lit 0)))), (.bin .eq (.var 4) (.un (.wrap .u64) (.bin .ediv (.fn 2 (.bin .add (.lit 0) (.bin (.shl .u64) (.var 2) (.bin .sub (.lit 0) (.bin .add (.fn 0 (.bin .add (.bin .mul (.var 1) (.lit 18446744073709551616)) (.var 2)) (.lit 0) (.lit 0)) (.lit (-53)))))) (.bin .add (.fn 0 (.bin .add (.bin .mul (.var 1) (.lit 18446744073709551616)) (.var 2)) (.lit 0) (.lit 0)) (.lit (-53))) (.lit 0)) (.lit 18446744073709551616)))), (.un .bnot (.bin .eq (.bin (.bits .or .u64) (.var 1) (.var 2)) (.lit 0))), (.bin .lt (.bin .add (.fn 0 (.bin .add (.bin .mul (.var 1) (.lit 18446744073709551616)) (.var 2)) (.lit 0) (.lit 0)) (.lit (-53))) (.lit 0)), (.bin .le (.bin .sub (.lit (-1074)) (.var 3)) (.bin .add (.fn 0 (.bin .add (.bin .mul (.var 1) (.lit 18446744073709551616)) (.var 2)) (.lit 0) (.lit 0)) (.lit (-53)))), (.bin .le (.lit (-5000)) (.var 3)), (.bin .le (.var 3) (.lit 5000))], (.int .u64 (.ite (.un .bnot (.un .bnot (.var 0))) (.lit 18442240474082181120) (.lit 9218868437227405312)))),
  ([(.bin .lt (.bin .add (.bin .add (.var 3) (.bin .add (.fn 0 (.bin .add (.bin .mul (.var 1) (.lit 18446744073709551616)) (.var 2)) (.lit 0) (.lit 0)) (.lit (-53)))) (.lit 1075)) (.lit 2047)), (.bin .le (.lit 4503599627370496) (.un (.wrap .u64) (.bin .add (.var 5) (.lit 1)))), (.un .bnot (.bin .eq (.un (.wrap .u64) (.bin .add (.var 5) (.lit 1))) (.lit 9007199254740992))), (.bin .eq (.bin .emod (.var 5) (.lit 2)) (.lit 1)), (.bin .eq (.var 6) (.lit 0)), (.un .bnot (.bin .eq (.var 6) (.lit 1))), (.bin .eq (.var 6) (.fn 3 (.bin .add (.lit 0) (.bin (.shl .u64) (.var 2) (.bin .sub (.lit 0) (.bin .add (.fn 0 (.bin .add (.bin .mul (.var 1) (.lit 18446744073709551616)) (.var 2)) (.lit 0) (.lit 0)) (.lit (-53)))))) (.bin .add (.fn 0 (.bin .add (.bin .mul (.var 1) (.lit 18446744073709551616)) (.var 2)) (.lit 0) (.lit 0)) (.lit (-53))) (.lit 0))), (.bin .eq (.var 5) (.un (.wrap .u64) (.fn 2 (.bin .add (.lit 0) (.bin (.shl .u64) (.var 2) (.bin .sub (.lit 0) (.bin .add (.fn 0 (.bin .add (.bin .mul (.var 1) (.lit 18446744073709551616)) (.var 2)) (.lit 0) (.lit 0)) (.lit (-53)))))) (.bin .add (.fn 0 (.bin .add (.bin .mul (.var 1) (.lit 18446744073709551616)) (.var 2)) (.lit 0) (.lit 0)) (.lit (-53))) (.lit 0)))), (.bin .eq (.var 4) (.un (.wrap .u64) (.bin .ediv (.fn 2 (.bin .add (.lit 0) (.bin (.shl .u64) (.var 2) (.bin .sub (.lit 0) (.bin .add (.fn 0 (.bin .add (.bin .mul (.var 1) (.lit 18446744073709551616)) (.var 2)) (.lit 0) (.lit 0)) (.lit (-53)))))) (.bin .add (.fn 0 (.bin .add (.bin .mul (.var 1) (.lit 18446744073709551616)) (.var 2)) (.lit 0) (.lit 0)) (.lit (-53))) (.lit 0)) (.lit 18446744073709551616)))), (.un .bnot (.bin .eq (.bin (.bits .or .u64) (.var 1) (.var 2)) (.lit 0))), (.bin .lt (.bin .add (.fn 0 (.bin .add (.bin .mul (.var 1) (.lit 18446744073709551616)) (.var 2)) (.lit 0) (.lit 0)) (.lit (-53))) (.lit 0)), (.bin .le (.bin .sub (.lit (-1074)) (.var 3)) (.bin .add (.fn 0 (.bin .add (.bin .mul (.var 1) (.lit 18446744073709551616)) (.var 2)) (.lit 0) (.lit 0)) (.lit (-53)))), (.bin .le (.lit (-5000)) (.var 3)), (.bin .le (.var 3) (.lit 5000))], (.int .u64 (.bin (.bits .or .u64) (.bin (.bits .or .u64) (.ite (.un .bnot (.un .bnot (.var 0))) (.lit 9223372036854775808) (.lit 0)) (.un (.wrap .u64) (.bin .mul (.un (.wrap .u64) (.bin .add (.bin .add (.var 3) (.bin .add (.fn 0 (.bin .add (.bin .mul (.var 1) (.lit 18446744073709551616)) (.var 2)) (.lit 0) (.lit 0)) (.lit (-53)))) (.lit 1075))) (.lit 4503599627370496)))) (.bin .emod (.un (.wrap .u64) (.bin .add (.var 5) (.lit 1))) (.lit 4503599627370496))))),
  ([(.bin .le (.lit 2047) (.bin .add (.bin .add (.var 3) (.bin .add (.fn 0 (.bin .add (.bin .mul (.var 1) (.lit 18446744073709551616)) (.var 2)) (.lit 0) (.lit 0)) (.lit (-53)))) (.lit 1076))), (.bin .eq (.var 5) (.lit 9007199254740992)), (.un .bnot (.bin .eq (.bin .emod (.var 5) (.lit 2)) (.lit 1))), (.bin .eq (.var 6) (.lit 0)), (.un .bnot (.bin .eq (.var 6) (.lit 1))), (.bin .eq (.var 6) (.fn 3 (.bin .add (.lit 0) (.bin (.shl .u64) (.var 2) (.bin .sub (.lit 0) (.bin .add (.fn 0 (.bin .add (.bin .mul (.var 1) (.lit 18446744073709551616)) (.var 2)) (.lit 0) (.lit 0)) (.lit (-53)))))) (.bin .add (.fn 0 (.bin .add (.bin .mul (.var 1) (.lit 18446744073709551616)) (.var 2)) (.lit 0) (.lit 0)) (.lit (-53))) (.lit 0))), (.bin .eq (.var 5) (.un (.wrap .u64) (.fn 2 (.bin .add (.lit 0) (.bin (.shl .u64) (.var 2) (.bin .sub (.lit 0) (.bin .add (.fn 0 (.bin .add (.bin .mul (.var 1) (.lit 18446744073709551616)) (.var 2)) (.lit 0) (.lit 0)) (.lit (-53)))))) (.bin .add (.fn 0 (.bin .add (.bin .mul (.var 1) (.lit 18446744073709551616)) (.var 2)) (.lit 0) (.lit 0)) (.lit (-53))) (.lit 0)))), (.bin .eq (.var 4) (.un (.wrap .u64) (.bin .ediv (.fn 2 (.bin .add (.lit 0) (.bin (.shl .u64) (.var 2) (.bin .sub (.lit 0) (.bin .add (.fn 0 (.bin .add (.bin .mul (.var 1) (.lit 18446744073709551616)) (.var 2)) (.lit 0) (.lit 0)) (.lit (-53)))))) (.bin .add (.fn 0 (.bin .add (.bin .mul (.var 1) (.lit 18446744073709551616)) (.var 2)) (.lit 0) (.lit 0)) (.lit (-53))) (.lit 0)) (.lit 18446744073709551616)))), (.un .bnot (.bin .eq (.bin (.bits .or .u64) (.var 1) (.var 2)) (.lit 0))), (.bin .lt (.bin .add (.fn 0 (.bin .add (.bin .mul (.var 1) (.lit 18446744073709551616)) (.var 2)) (.lit 0) (.lit 0)) (.lit (-53))) (.lit 0)), (.bin .le (.bin .sub (.lit (-1074)) (.var 3)) (.bin .add (.fn 0 (.bin .add (.bin .mul (.var 1) (.lit 18446744073709551616)) (.var 2)) (.lit 0) (.lit 0)) (.lit (-53)))), (.bin .le (.lit (-5000)) (.var 3)), (.bin .le (.var 3) (.lit 5000))], (.int .u64 (.ite (.un .bnot (.un .bnot (.var 0))) (.lit 18442240474082181120) (.lit 9218868437227405312)))),
  ([(.bin .lt (.bin .add (.bin .add (.var 3) (.bin .add (.fn 0 (.bin .add (.bin .mul (.var 1) (.lit 18446744073709551616)) (.var 2)) (.lit 0) (.lit 0)) (.lit (-53)))) (.lit 1076)) (.lit 2047)), (.bin .eq (.var 5) (.lit 9007199254740992)), (.un .bnot (.bin .eq (.bin .emod (.var 5) (.lit 2)) (.lit 1))), (.bin .eq (.var 6) (.lit 0)), (.un .bnot (.bin .eq (.var 6) (.lit 1))), (.bin .eq (.var 6) (.fn 3 (.bin .add (.lit 0) (.bin (.shl .u64) (.var 2) (.bin .sub (.lit 0) (.bin .add (.fn 0 (.bin .add (.bin .mul (.var 1) (.lit 18446744073709551616)) (.var 2)) (.lit 0) (.lit 0)) (.lit (-53)))))) (.bin .add (.fn 0 (.bin .add (.bin .mul (.var 1) (.lit 18446744073709551616)) (.var 2)) (.lit 0) (.lit 0)) (.lit (-53))) (.lit 0))), (.bin .eq (.var 5) (.un (.wrap .u64) (.fn 2 (.bin .add (.lit 0) (.bin (.shl .u64) (.var 2) (.bin .sub (.lit 0) (.bin .add (.fn 0 (.bin .add (.bin .mul (.var 1) (.lit 18446744073709551616)) (.var 2)) (.lit 0) (.lit 0)) (.lit (-53)))))) (.bin .add (.fn 0 (.bin .add (.bin .mul (.var 1) (.lit 18446744073709551616)) (.var 2)) (.lit 0) (.lit 0)) (.lit (-53))) (.lit 0)))), (.bin .eq (.var 4) (.un (.wrap .u64) (.bin .ediv (.fn 2 (.bin .add (.lit 0) (.bin (.shl .u64) (.var 2) (.bin .sub (.lit 0) (.bin .add (.fn 0 (.bin .add (.bin .mul (.var 1) (.lit 18446744073709551616)) (.var 2)) (.lit 0) (.lit 0)) (.lit (-53)))))) (.bin .add (.fn 0 (.bin .add (.bin .mul (.var 1) (.lit 18446744073709551616)) (.var 2)) (.lit 0) (.lit 0)) (.lit (-53))) (.lit 0)) (.lit 18446744073709551616)))), (.un .bnot (.bin .eq (.bin (.bits .or .u64) (.var 1) (.var 2)) (.lit 0))), (.bin .lt (.bin .add (.fn 0 (.bin .add (.bin .mul (.var 1) (.lit 18446744073709551616)) (.var 2)) (.lit 0) (.lit 0)) (.lit (-53))) (.lit 0)), (.bin .le (.bin .sub (.lit (-1074)) (.var 3)) (.bin .add (.fn 0 (.bin .add (.bin .mul (.var 1) (.lit 18446744073709551616)) (.var 2)) (.lit 0) (.lit 0)) (.lit (-53)))), (.bin .le (.lit (-5000)) (.var 3)), (.bin .le (.var 3) (.lit 5000))], (.int .u64 (.bin (.bits .or .u64) (.bin (.bits .or .u64) (.ite (.un .bnot (.un .bnot (.var 0))) (.lit 9223372036854775808) (.lit 0)) (.un (.wrap .u64) (.bin .mul (.un (.wrap .u64) (.bin .add (.bin .add (.var 3) (.bin .add (.fn 0 (.bin .add (.bin .mul (.var 1) (.lit 18446744073709551616)) (.var 2)) (.lit 0) (.lit 0)) (.lit (-53)))) (.lit 1076))) (.lit 4503599627370496)))) (.bin .emod (.bin .ediv (.var 5) (.lit 2)) (.lit 4503599627370496))))),
  ([(.bin .lt (.var 5) (.lit 4503599627370496)), (.un .bnot (.bin .eq (.var 5) (.lit 9007199254740992))), (.un .bnot (.bin .eq (.bin .emod (.var 5) (.lit 2)) (.lit 1))), (.bin .eq (.var 6) (.lit 0)), (.un .bnot (.bin .eq (.var 6) (.lit 1))), (.bin .eq (.var 6) (.fn 3 (.bin .add (.lit 0) (.bin (.shl .u64) (.var 2) (.bin .sub (.lit 0) (.bin .add (.fn 0 (.bin .add (.bin .mul (.var 1) (.lit 18446744073709551616)) (.var 2)) (.lit 0) (.lit 0)) (.lit (-53)))))) (.bin .add (.fn 0 (.bin .add (.bin .mul (.var 1) (.lit 18446744073709551616)) (.var 2)) (.lit 0) (.lit 0)) (.lit (-53))) (.lit 0))), (.bin .eq (.var 5) (.un (.wrap .u64) (.fn 2 (.bin .add (.lit 0) (.bin (.shl .u64) (.var 2) (.bin .sub (.lit 0) (.bin .add (.fn 0 (.bin .add (.bin .mul (.var 1) (.lit 18446744073709551616)) (.var 2)) (.lit 0) (.lit 0)) (.lit (-53)))))) (.bin .add (.fn 0 (.bin .add (.bin .mul (.var 1) (.lit 18446744073709551616)) (.var 2)) (.lit 0) (.lit 0)) (.lit (-53))) (.lit 0)))), (.bin .eq (.var 4) (.un (.wrap .u64) (.bin .ediv (.fn 2 (.bin .add (.lit 0) (.bin (.shl .u64) (.var 2) (.bin .sub (.lit 0) (.bin .add (.fn 0 (.bin .add (.bin .mul (.var 1) (.lit 18446744073709551616)) (.var 2)) (.lit 0) (.lit 0)) (.lit (-53)))))) (.bin .add (.fn 0 (.bin .add (.bin .mul (.var 1) (.lit 18446744073709551616)) (.var 2)) (.lit 0) (.lit 0)) (.lit (-53))) (.lit 0)) (.lit 18446744073709551616)))), (.un .bnot (.bin .eq (.bin (.bits .or .u64) (.var 1) (.var 2)) (.lit 0))), (.bin .lt (.bin .add (.fn 0 (.bin .add (.bin .mul (.var 1) (.lit 18446744073709551616)) (.var 2)) (.lit 0) (.lit 0)) (.lit (-53))) (.lit 0)), (.bin .le (.bin .sub (.lit (-1074)) (.var 3)) (.bin .add (.fn 0 (.bin .add (.bin .mul (.var 1) (.lit 18446744073709551616)) (.var 2)) (.lit 0) (.lit 0)) (.lit (-53)))), (.bin .le (.lit (-5000)) (.var 3)), (.bin .le (.var 3) (.lit 5000))], (.int .u64 (.bin (.bits .or .u64) (.ite (.un .bnot (.un .bnot (.var 0))) (.lit 9223372036854775808) (.lit 0)) (.var 5)))),
  ([(.bin .le (.lit 2047) (.bin .add (.bin .add (.var 3) (.bin .add (.fn 0 (.bin .add (.bin .mul (.var 1) (.lit 18446744073709551616)) (.var 2)) (.lit 0) (.lit 0)) (.lit (-53)))) (.lit 1075))), (.bin .le (.lit 4503599627370496) (.var 5)), (.un .bnot (.bin .eq (.var 5) (.lit 9007199254740992))), (.un .bnot (.bin .eq (.bin .emod (.var 5) (.lit 2)) (.lit 1))), (.bin .eq (.var 6) (.lit 0)), (.un .bnot (.bin .eq (.var 6) (.lit 1))), (.bin .eq (.var 6) (.fn 3 (.bin .add (.lit 0) (.bin (.shl .u64) (.var 2) (.bin .sub (.lit 0) (.bin .add (.fn 0 (.bin .add (.bin .mul (.var 1) (.lit 18446744073709551616)) (.var 2)) (.lit 0) (.lit 0)) (.lit (-53)))))) (.bin .add (.fn 0 (.bin .add (.bin .mul (.var 1) (.lit 18446744073709551616)) (.var 2)) (.lit 0) (.lit 0)) (.lit (-53))) (.lit 0))), (.bin .eq (.var 5) (.un (.wrap .u64) (.fn 2 (.bin .add (.lit 0) (.bin (.shl .u64) (.var 2) (.bin .sub (.lit 0) (.bin .add (.fn 0 (.bin .add (.bin .mul (.var 1) (.lit 18446744073709551616)) (.var 2)) (.lit 0) (.lit 0)) (.lit (-53)))))) (.bin .add (.fn 0 (.bin .add (.bin .mul (.var 1) (.lit 18446744073709551616)) (.var 2)) (.lit 0) (.lit 0)) (.lit (-53))) (.lit 0)))), (.bin .eq (.var 4) (.un (.wrap .u64) (.bin .ediv (.fn 2 (.bin .add (.lit 0) (.bin (.shl .u64) (.var 2) (.bin .sub (.lit 0) (.bin .add (.fn 0 (.bin .add (.bin .mul (.var 1) (.lit 18446744073709551616)) (.var 2)) (.lit 0) (.lit 0)) (.lit (-53)))))) (.bin .add (.fn 0 (.bin .add (.bin .mul (.var 1) (.lit 18446744073709551616)) (.var 2)) (.lit 0) (.lit 0)) (.lit (-53))) (.lit 0)) (.lit 18446744073709551616)))), (.un .bnot (.bin .eq (.bin (.bits .or .u64) (.var 1) (.var 2)) (.lit 0))), (.bin .lt (.bin .add (.fn 0 (.bin .add (.bin .mul (.var 1) (.lit 18446744073709551616)) (.var 2)) (.lit 0) (.lit 0)) (.lit (-53))) (.lit 0)), (.bin .le (.bin .sub (.lit (-1074)) (.var 3)) (.bin .add (.fn 0 (.bin .add (.bin .mul (.var 1) (.lit 18446744073709551616)) (.var 2)) (.lit 0) (.lit 0)) (.lit (-53)))), (.bin .le (.lit (-5000)) (.var 3)), (.bin .le (.var 3) (.lit 5000))], (.int .u64 (.ite (.un .bnot (.un .bnot (.var 0))) (.lit 18442240474082181120) (.lit 9218868437227405312)))),
  ([(.bin .lt (.bin .add (.bin .add (.var 3) (.bin .add (.fn 0 (.bin .add (.bin .mul (.var 1) (.lit 18446744073709551616)) (.var 2)) (.lit 0) (.lit 0)) (.lit (-53)))) (.lit 1075)) (.lit 2047)), (.bin .le (.lit 4503599627370496) (.var 5)), (.un .bnot (.bin .eq (.var 5) (.lit 9007199254740992))), (.un .bnot (.bin .eq (.bin .emod (.var 5) (.lit 2)) (.lit 1))), (.bin .eq (.var 6) (.lit 0)), (.un .bnot (.bin .eq (.var 6) (.lit 1))), (.bin .eq (.var 6) (.fn 3 (.bin .add (.lit 0) (.bin (.shl .u64) (.var 2) (.bin .sub (.lit 0) (.bin .add (.fn 0 (.bin .add (.bin .mul (.var 1) (.lit 18446744073709551616)) (.var 2)) (.lit 0) (.lit 0)) (.lit (-53)))))) (.bin .add (.fn 0 (.bin .add (.bin .mul (.var 1) (.lit 18446744073709551616)) (.var 2)) (.lit 0) (.lit 0)) (.lit (-53))) (.lit 0))), (.bin .eq (.var 5) (.un (.wrap .u64) (.fn 2 (.bin .add (.lit 0) (.bin (.shl .u64) (.var 2) (.bin .sub (.lit 0) (.bin .add (.fn 0 (.bin .add (.bin .mul (.var 1) (.lit 18446744073709551616)) (.var 2)) (.lit 0) (.lit 0)) (.lit (-53)))))) (.bin .add (.fn 0 (.bin .add (.bin .mul (.var 1) (.lit 18446744073709551616)) (.var 2)) (.lit 0) (.lit 0)) (.lit (-53))) (.lit 0)))), (.bin .eq (.var 4) (.un (.wrap .u64) (.bin .ediv (.fn 2 (.bin .add (.lit 0) (.bin (.shl .u64) (.var 2) (.bin .sub (.lit 0) (.bin .add (.fn 0 (.bin .add (.bin .mul (.var 1) (.lit 18446744073709551616)) (.var 2)) (.lit 0) (.lit 0)) (.lit (-53)))))) (.bin .add (.fn 0 (.bin .add (.bin .mul (.var 1) (.lit 18446744073709551616)) (.var 2)) (.lit 0) (.lit 0)) (.lit (-53))) (.lit 0)) (.lit 18446744073709551616)))), (.un .bnot (.bin .eq (.bin (.bits .or .u64) (.var 1) (.var 2)) (.lit 0))), (.bin .lt (.bin .add (.fn 0 (.bin .add (.bin .mul (.var 1) (.lit 18446744073709551616)) (.var 2)) (.lit 0) (.lit 0)) (.lit (-53))) (.lit 0)), (.bin .le (.bin .sub (.lit (-1074)) (.var 3)) (.bin .add (.fn 0 (.bin .add (.bin .mul (.var 1) (.lit 18446744073709551616)) (.var 2)) (.lit 0) (.lit 0)) (.lit (-53)))), (.bin .le (.lit (-5000)) (.var 3)), (.bin .le (.var 3) (.lit 5000))], (.int .u64 (.bin (.bits .or .u64) (.bin (.bits .or .u64) (.ite (.un .bnot (.un .bnot (.var 0))) (.lit 9223372036854775808) (.lit 0)) (.un (.wrap .u64) (.bin .mul (.un (.wrap .u64) (.bin .add (.bin .add (.var 3) (.bin .add (.fn 0 (.bin .add (.bin .mul (.var 1) (.lit 18446744073709551616)) (.var 2)) (.lit 0) (.lit 0)) (.lit (-53)))) (.lit 1075))) (.lit 4503599627370496)))) (.bin .emod (.var 5) (.lit 4503599627370496))))),
  ([(.bin .le (.lit 2047) (.bin .add (.bin .add (.var 3) (.bin .add (.fn 0 (.bin .add (.bin .mul (.var 1) (.lit 18446744073709551616)) (.var 2)) (.lit 0) (.lit 0)) (.lit (-53)))) (.lit 1076))), (.bin .eq (.var 5) (.lit 9007199254740992)), (.un .bnot (.bin .eq (.var 6) (.lit 0))), (.un .bnot (.bin .eq (.var 6) (.lit 1))), (.bin .eq (.var 6) (.fn 3 (.bin .add (.lit 0) (.bin (.shl .u64) (.var 2) (.bin .sub (.lit 0) (.bin .add (.fn 0 (.bin .add (.bin .mul (.var 1) (.lit 18446744073709551616)) (.var 2)) (.lit 0) (.lit 0)) (.lit (-53)))))) (.bin .add (.fn 0 (.bin .add (.bin .mul (.var 1) (.lit 18446744073709551616)) (.var 2)) (.lit 0) (.lit 0)) (.lit (-53))) (.lit 0))), (.bin .eq (.var 5) (.un (.wrap .u64) (.fn 2 (.bin .add (.lit 0) (.bin (.shl .u64) (.var 2) (.bin .sub (.lit 0) (.bin .add (.fn 0 (.bin .add (.bin .mul (.var 1) (.lit 18446744073709551616)) (.var 2)) (.lit 0) (.lit 0)) (.lit (-53)))))) (.bin .add (.fn 0 (.bin .add (.bin .mul (.var 1) (.lit 18446744073709551616)) (.var 2)) (.lit 0) (.lit 0)) (.lit (-53))) (.lit 0)))), (.bin .eq (.var 4) (.un (.wrap .u64) (.bin .ediv (.fn 2 (.bin .add (.lit 0) (.bin (.shl .u64) (.var 2) (.bin .sub (.lit 0) (.bin .add (.fn 0 (.bin .add (.bin .mul (.var 1) (.lit 18446744073709551616)) (.var 2)) (.lit 0) (.lit 0)) (.lit (-53)))))) (.bin .add (.fn 0 (.bin .add (.bin .mul (.var 1) (.lit 18446744073709551616)) (.var 2)) (.lit 0) (.lit 0)) (.lit (-53))) (.lit 0)) (.lit 18446744073709551616)))), (.un .bnot (.bin .eq (.bin (.bits .or .u64) (.var 1) (.var 2)) (.lit 0))), (.bin .lt (.bin .add (.fn 0 (.bin .add (.bin .mul (.var 1) (.lit 18446744073709551616)) (.var 2)) (.lit 0) (.lit 0)) (.lit (-53))) (.lit 0)), (.bin .le (.bin .sub (.lit (-1074)) (.var 3)) (.bin .add (.fn 0 (.bin .add (.bin .mul (.var 1) (.lit 18446744073709551616)) (.var 2)) (.lit 0) (.lit 0)) (.lit (-53)))), (.bin .le (.lit (-5000)) (.var 3)), (.bin .le (.var 3) (.lit 5000))], (.int .u64 (.ite (.un .bnot (.un .bnot (.var 0))) (.lit 18442240474082181120) (.lit 9218868437227405312)))),
  ([(.bin .lt (.bin .add (.bin .add (.var 3) (.bin .add (.fn 0 (.bin .add (.bin .mul (.var 1) (.lit 18446744073709551616)) (.var 2)) (.lit 0) (.lit 0)) (.lit (-53)))) (.lit 1076)) (.lit 2047)), (.bin .eq (.var 5) (.lit 9007199254740992)), (.un .bnot (.bin .eq (.var 6) (.lit 0))), (.un .bnot (.bin .eq (.var 6) (.lit 1))), (.bin .eq (.var 6) (.fn 3 (.bin .add (.lit 0) (.bin (.shl .u64) (.var 2) (.bin .sub (.lit 0) (.bin .add (.fn 0 (.bin .add (.bin .mul (.var 1) (.lit 18446744073709551616)) (.var 2)) (.lit 0) (.lit 0)) (.lit (-53)))))) (.bin .add (.fn 0 (.bin .add (.bin .mul (.var 1) (.lit 18446744073709551616)) (.var 2)) (.lit 0) (.lit 0)) (.lit (-53))) (.lit 0))), (.bin .eq (.var 5) (.un (.wrap .u64) (.fn 2 (.bin .add (.lit 0) (.bin (.shl .u64) (.var 2) (.bin .sub (.lit 0) (.bin .add (.fn 0 (.bin .add (.bin .mul (.var 1) (.lit 18446744073709551616)) (.var 2)) (.lit 0) (.lit 0)) (.lit (-53)))))) (.bin .add (.fn 0 (.bin .add (.bin .mul (.var 1) (.lit 18446744073709551616)) (.var 2)) (.lit 0) (.lit 0)) (.lit (-53))) (.lit 0)))), (.bin .eq (.var 4) (.un (.wrap .u64) (.bin .ediv (.fn 2 (.bin .add (.lit 0) (.bin (.shl .u64) (.var 2) (.bin .sub (.lit 0) (.bin .add (.fn 0 (.bin .add (.bin .mul (.var 1) (.lit 18446744073709551616)) (.var 2)) (.lit 0) (.lit 0)) (.lit (-53)))))) (.bin .add (.fn 0 (.bin .add (.bin .mul (.var 1) (.lit 18446744073709551616)) (.var 2)) (.lit 0) (.lit 0)) (.lit (-53))) (.lit 0)) (.lit 18446744073709551616)))), (.un .bnot (.bin .eq (.bin (.bits .or .u64) (.var 1) (.var 2)) (.lit 0))), (.bin .lt (.bin .add (.fn 0 (.bin .add (.bin .mul (.var 1) (.lit 18446744073709551616)) (.var 2)) (.lit 0) (.lit 0)) (.lit (-53))) (.lit 0)), (.bin .le (.bin .sub (.lit (-1074)) (.var 3)) (.bin .add (.fn 0 (.bin .add (.bin .mul (.var 1) (.lit 18446744073709551616)) (.var 2)) (.lit 0) (.lit 0)) (.lit (-53)))), (.bin .le (.lit (-5000)) (.var 3)), (.bin .le (.var 3) (.lit 5000))], (.int .u64 (.bin (.bits .or .u64) (.bin (.bits .or .u64) (.ite (.un .bnot (.un .bnot (.var 0))) (.lit 9223372036854775808) (.lit 0)) (.un (.wrap .u64) (.bin .mul (.un (.wrap .u64) (.bin .add (.bin .add (.var 3) (.bin .add (.fn 0 (.bin .add (.bin .mul (.var 1) (.lit 18446744073709551616)) (.var 2)) (.lit 0) (.lit 0)) (.lit (-53)))) (.lit 1076))) (.lit 4503599627370496)))) (.bin .emod (.bin .ediv (.var 5) (.lit 2)) (.lit 4503599627370496))))),
  ([(.bin .lt (.var 5) (.lit 4503599627370496)), (.un .bnot (.bin .eq (.var 5) (.lit 9007199254740992))), (.un .bnot (.bin .eq (.var 6) (.lit 0))), (.un .bnot (.bin .eq (.var 6) (.lit 1))), (.bin .eq (.var 6) (.fn 3 (.bin .add (.lit 0) (.bin (.shl .u64) (.var 2) (.bin .sub (.lit 0) (.bin .add (.fn 0 (.bin .add (.bin .mul (.var 1) (.lit 18446744073709551616)) (.var 2)) (.lit 0) (.lit 0)) (.lit (-53)))))) (.bin .add (.fn 0 (.bin .add (.bin .mul (.var 1) (.lit 18446744073709551616)) (.var 2)) (.lit 0) (.lit 0)) (.lit (-53))) (.lit 0))), (.bin .eq (.var 5) (.un (.wrap .u64) (.fn 2 (.bin .add (.lit 0) (.bin (.shl .u64) (.var 2) (.bin .sub (.lit 0) (.bin .add (.fn 0 (.bin .add (.bin .mul (.var 1) (.lit 18446744073709551616)) (.var 2)) (.lit 0) (.lit 0)) (.lit (-53)))))) (.bin .add (.fn 0 (.bin .add (.bin .mul (.var 1) (.lit 18446744073709551616)) (.var 2)) (.lit 0) (.lit 0)) (.lit (-53))) (.lit 0)))), (.bin .eq (.var 4) (.un (.wrap .u64) (.bin .ediv (.fn 2 (.bin .add (.lit 0) (.bin (.shl .u64) (.var 2) (.bin .sub (.lit 0) (.bin .add (.fn 0 (.bin .add (.bin .mul (.var 1) (.lit 18446744073709551616)) (.var 2)) (.lit 0) (.lit 0)) (.lit (-53)))))) (.bin .add (.fn 0 (.bin .add (.bin .mul (.var 1) (.lit 18446744073709551616)) (.var 2)) (.lit 0) (.lit 0)) (.lit (-53))) (.lit 0)) (.lit 18446744073709551616)))), (.un .bnot (.bin .eq (.bin (.bits .or .u64) (.var 1) (.var 2)) (.lit 0))), (.bin .lt (.bin .add (.fn 0 (.bin .add (.bin .mul (.var 1) (.lit 18446744073709551616)) (.var 2)) (.lit 0) (.lit 0)) (.lit (-53))) (.lit 0)), (.bin .le (.bin .sub (.lit (-1074)) (.var 3)) (.bin .add (.fn 0 (.bin .add (.bin .mul (.var 1) (.lit 18446744073709551616)) (.var 2)) (.lit 0) (.lit 0)) (.lit (-53)))), (.bin .le (.lit (-5000)) (.var 3)), (.bin .le (.var 3) (.lit 5000))], (.int .u64 (.bin (.bits .or .u64) (.ite (.un .bnot (.un .bnot (.var 0))) (.lit 9223372036854775808) (.lit 0)) (.var 5)))),
  ([(.bin .le (.lit 2047) (.bin .add (.bin .add (.var 3) (.bin .add (.fn 0 (.bin .add (.bin .mul (.var 1) (.lit 18446744073709551616)) (.var 2)) (.lit 0) (.lit 0)) (.lit (-53)))) (.lit 1075))), (.bin .le (.lit 4503599627370496) (.var 5)), (.un .bnot (.bin .eq (.var 5) (.lit 9007199254740992))), (.un .bnot (.bin .eq (.var 6) (.lit 0))), (.un .bnot (.bin .eq (.var 6) (.lit 1))), (.bin .eq (.var 6) (.fn 3 (.bin .add (.lit 0) (.bin (.shl .u64) (.var 2) (.bin .sub (.lit 0) (.bin .add (.fn 0 (.bin .add (.bin .mul (.var 1) (.lit 18446744073709551616)) (.var 2)) (.lit 0) (.lit 0)) (.lit (-53)))))) (.bin .add (.fn 0 (.bin .add (.bin .mul (.var 1) (.lit 18446744073709551616)) (.var 2)) (.lit 0) (.lit 0)) (.lit (-53))) (.lit 0))), (.bin .eq (.var 5) (.un (.wrap .u64) (.fn 2 (.bin .add (.lit 0) (.bin (.shl .u64) (.var 2) (.bin .sub (.lit 0) (.bin .add (.fn 0 (.bin .add (.bin .mul (.var 1) (.lit 18446744073709551616)) (.var 2)) (.lit 0) (.lit 0)) (.lit (-53)))))) (.bin .add (.fn 0 (.bin .add (.bin .mul (.var 1) (.lit 18446744073709551616)) (.var 2)) (.lit 0) (.lit 0)) (.lit (-53))) (.lit 0)))), (.bin .eq (.var 4) (.un (.wrap .u64) (.bin .ediv (.fn 2 (.bin .add (.lit 0) (.bin (.shl .u64) (.var 2) (.bin .sub (.lit 0) (.bin .add (.fn 0 (.bin .add (.bin .mul (.var 1) (.lit 18446744073709551616)) (.var 2)) (.lit 0) (.lit 0)) (.lit (-53)))))) (.bin .add (.fn 0 (.bin .add (.bin .mul (.var 1) (.lit 18446744073709551616)) (.var 2)) (.lit 0) (.lit 0)) (.lit (-53))) (.lit 0)) (.lit 18446744073709551616)))), (.un .bnot (.bin .eq (.bin (.bits .or .u64) (.var 1) (.var 2)) (.lit 0))), (.bin .lt (.bin .add (.fn 0 (.bin .add (.bin .mul (.var 1) (.lit 18446744073709551616)) (.var 2)) (.lit 0) (.lit 0)) (.lit (-53))) (.lit 0)), (.bin .le (.bin .sub (.lit (-1074)) (.var 3)) (.bin .add (.fn 0 (.bin .add (.bin .mul (.var 1) (.lit 18446744073709551616)) (.var 2)) (.lit 0) (.lit 0)) (.lit (-53)))), (.bin .le (.lit (-5000)) (.var 3)), (.bin .le (.var 3) (.lit 5000))], (.int .u64 (.ite (.un .bnot (.un .bnot (.var 0))) (.lit 18442240474082181120) (.lit 9218868437227405312)))),
  ([(.bin .lt (.bin .add (.bin .add (.var 3) (.bin .add (.fn 0 (.bin .add (.bin .mul (.var 1) (.lit 18446744073709551616)) (.var 2)) (.lit 0) (.lit 0)) (.lit (-53)))) (.lit 1075)) (.lit 2047)), (.bin .le (.lit 4503599627370496) (.var 5)), (.un .bnot (.bin .eq (.var 5) (.lit 9007199254740992))), (.un .bnot (.bin .eq (.var 6) (.lit 0))), (.un .bnot (.bin .eq (.var 6) (.lit 1))), (.bin .eq (.var 6) (.fn 3 (.bin .add (.lit 0) (.bin (.shl .u64) (.var 2) (.bin .sub (.lit 0) (.bin .add (.fn 0 (.bin .add (.bin .mul (.var 1) (.lit 18446744073709551616)) (.var 2)) (.lit 0) (.lit 0)) (.lit (-53)))))) (.bin .add (.fn 0 (.bin .add (.bin .mul (.var 1) (.lit 18446744073709551616)) (.var 2)) (.lit 0) (.lit 0)) (.lit (-53))) (.lit 0))), (.bin .eq (.var 5) (.un (.wrap .u64) (.fn 2 (.bin .add (.lit 0) (.bin (.shl .u64) (.var 2) (.bin .sub (.lit 0) (.bin .add (.fn 0 (.bin .add (.bin .mul (.var 1) (.lit 18446744073709551616)) (.var 2)) (.lit 0) (.lit 0)) (.lit (-53)))))) (.bin .add (.fn 0 (.bin .add (.bin .mul (.var 1) (.lit 18446744073709551616)) (.var 2)) (.lit 0) (.lit 0)) (.lit (-53))) (.lit 0)))), (.bin .eq (.var 4) (.un (.wrap .u64) (.bin .ediv (.fn 2 (.bin .add (.lit 0) (.bin (.shl .u64) (.var 2) (.bin .sub (.lit 0) (.bin .add (.fn 0 (.bin .add (.bin .mul (.var 1) (.lit 18446744073709551616)) (.var 2)) (.lit 0) (.lit 0)) (.lit (-53)))))) (.bin .add (.fn 0 (.bin .add (.bin .mul (.var 1) (.lit 18446744073709551616)) (.var 2)) (.lit 0) (.lit 0)) (.lit (-53))) (.lit 0)) (.lit 18446744073709551616)))), (.un .bnot (.bin .eq (.bin (.bits .or .u64) (.var 1) (.var 2)) (.lit 0))), (.bin .lt (.bin .add (.fn 0 (.bin .add (.bin .mul (.var 1) (.lit 18446744073709551616)) (.var 2)) (.lit 0) (.lit 0)) (.lit (-53))) (.lit 0)), (.bin .le (.bin .sub (.lit (-1074)) (.var 3)) (.bin .add (.fn 0 (.bin .add (.bin .mul (.var 1) (.lit 18446744073709551616)) (.var 2)) (.lit 0) (.lit 0)) (.lit (-53)))), (.bin .le (.lit (-5000)) (.var 3)), (.bin .le (.var 3) (.lit 5000))], (.int .u64 (.bin (.bits .or .u64) (.bin (.bits .or .u64) (.ite (.un .bnot (.un .bnot (.var 0))) (.lit 9223372036854775808) (.lit 0)) (.un (.wrap .u64) (.bin .mul (.un (.wrap .u64) (.bin .add (.bin .add (.var 3) (.bin .add (.fn 0 (.bin .add (.bin .mul (.var 1) (.lit 18446744073709551616)) (.var 2)) (.lit 0) (.lit 0)) (.lit (-53)))) (.lit 1075))) (.lit 4503599627370496)))) (.bin .emod (.var 5) (.lit 4503599627370496)))))]
set_option maxRecDepth 100000 in
theorem rndB0Ran : runOfG Try.prog (orcs (gOracle gsD0) (orcs (specOracle [longS]) (nameO (specOracle [downS])))) noLoops (bodies fns) [] 4000 rndB0 = some rndB0R := by kernel_rfl
end Go.Proofs.Ytnodelimomljbaa.RunRndB0

/- The reference's round, case B0, in numbers. No condition. -/
namespace Go.Proofs.Ytnodelimomljbaa.PlainRndB0
open Go Go.Sx Go.Sx.Flt Go.Sx.Ref Go.Proofs.Ytnodelimomljbaa.RunRndB0
set_option linter.unusedSimpArgs false
set_option linter.unusedVariables false
set_option maxHeartbeats 1000000 in
theorem plain (u : Nat → Int) (hk : KindOk u 0 rndB0.sp.ks) (hp : pcOk ⟨u, fnG⟩ rndB0.sp.pre) : Keeps ⟨u, fnG⟩ rndB0.sp.res rndB0R := by
  have h1 : 0 ≤ u 1 ∧ u 1 ≤ 18446744073709551615 := of_kind hk.2.1
  have h2 : 0 ≤ u 2 ∧ u 2 ≤ 18446744073709551615 := of_kind hk.2.2.1
  obtain ⟨n, hn⟩ : ∃ n : Nat, u 1 * 18446744073709551616 + u 2 = n := ⟨(u 1 * 18446744073709551616 + u 2).toNat, by omega⟩
  obtain ⟨K, hK⟩ : ∃ K, fnG 0 n 0 0 + -53 = K := ⟨_, rfl⟩
  obtain ⟨R, hR⟩ : ∃ R, fnG 4 n (u 3) 0 = R := ⟨_, rfl⟩
  have hL : fnG 0 n 0 0 = (lenN n : Int) := by simp only [fnG, Int.toNat_natCast]
  have q0 := hp _ (List.mem_cons_self)
  have q1 := hp _ (List.mem_cons_of_mem _ List.mem_cons_self)
  simp only [byA, byB, preB, lenE, f1, nn, w64, v, bi, E.den, Bi.den, b2i_ne, decide_eq_true_eq, hn, hL] at q0 q1
  have q0 : (lenN n : Int) + -53 < 0 := by first | exact of_decide_eq_true q0 | exact q0
  have q1 : -1074 - u 3 ≤ (lenN n : Int) + -53 := by first | exact of_decide_eq_true q1 | exact q1
  have hT : 0 ≤ u 3 + K + 1074 := by omega
  have h0 : n = 0 → R = 0 := fun h => by rw [← hR]; simp only [fnG, Int.toNat_natCast]; rw [h]; unfold rungOf; simp
  have hn53 : n < 9007199254740992 := by
    have h := lenN_lt n
    have e : (2 : Nat) ^ lenN n ≤ 2 ^ 53 := Nat.pow_le_pow_right (by decide) (by omega)
    have e2 : (2 : Nat) ^ 53 = 9007199254740992 := by decide
    omega
  obtain ⟨k, hk2⟩ : ∃ k : Nat, (0 - K).toNat = k := ⟨_, rfl⟩
  obtain ⟨q, hq⟩ : ∃ q : Nat, q = n * 2 ^ k := ⟨_, rfl⟩
  have F3 : fnG 3 q K 0 = lost q K := by simp only [fnG, Int.toNat_natCast]
  have core : ¬ bitI .or .u64 (u 1) (u 2) = 0 → ∃ M : Nat, fnG 2 q K 0 = (M : Int) ∧ M < 9007199254740992 ∧ (M < 4503599627370496 → u 3 + K + 1074 = 0) ∧
      R = min ((u 3 + K + 1074) * 4503599627370496 + ((M : Int) + (if lost q K = 1 ∨ (lost q K = 0 ∧ M % 2 = 1) then 1 else 0))) 9218868437227405312 := by
    intro hne
    have hn0 : n ≠ 0 := fun h => hne ((or_null h1 h2).2 (by omega))
    have hr := rung_double hn0 (u 3) K (by omega)
    have hR' : R = ((rungOf Ieee.double n (u 3) : Nat) : Int) := by rw [← hR]; simp only [fnG, Int.toNat_natCast]
    rw [hr] at hR'
    rw [hR']
    have e1 : (-K).toNat = k := by omega
    have e2 : K.toNat = 0 := by omega
    have hlq : lost q K = 2 := by unfold lost; rw [if_pos (by omega)]
    refine ⟨q, by simp only [fnG, Int.toNat_natCast, e2, Nat.pow_zero, Nat.div_one], ?_, ?_, ?_⟩
    · rw [hq]
      have h := lenN_lt n
      have h3 : n * 2 ^ k < 2 ^ lenN n * 2 ^ k := Nat.mul_lt_mul_of_pos_right h (Nat.two_pow_pos k)
      rw [← Nat.pow_add] at h3
      have e : (2 : Nat) ^ (lenN n + k) ≤ 2 ^ 53 := Nat.pow_le_pow_right (by decide) (by omega)
      have e3 : (2 : Nat) ^ 53 = 9007199254740992 := by decide
      omega
    · intro hlo
      have h4 : 0 < lenN n := by
        rcases Nat.eq_zero_or_pos (lenN n) with h5 | h5
        · have := lenN_lt n; rw [h5] at this; simp at this; omega
        · exact h5
      rcases Nat.lt_or_ge n (2 ^ (lenN n - 1)) with h | h
      · have := (lenN_le n (lenN n - 1)).2 h
        omega
      · have h3 := Nat.mul_le_mul_right (2 ^ k) h
        rw [← Nat.pow_add, show lenN n - 1 + k = 52 by omega, ← hq] at h3
        have e3 : (2 : Nat) ^ 52 = 4503599627370496 := by decide
        omega
    · rw [e1, e2, ← hq, rne_zero, hlq, if_neg (by omega), Int.add_zero]
  have hS : ∀ hne : ¬ bitI .or .u64 (u 1) (u 2) = 0, 0 + IntKind.u64.wrap (u 2 * 2 ^ (min (0 - K).toNat IntKind.u64.bits)) = (q : Int) := fun hne => by
    obtain ⟨M, f2, hi, _, _⟩ := core hne
    clear core
    have e2 : K.toNat = 0 := by omega
    simp only [fnG, Int.toNat_natCast, e2, Nat.pow_zero, Nat.div_one] at f2
    have hu : u 2 = n := by omega
    rw [hk2, hu, show IntKind.u64.bits = 64 from rfl, Nat.min_eq_left (by omega), u64_wr]
    have : ((n : Int) * 2 ^ k) = ((n * 2 ^ k : Nat) : Int) := by rw [Int.natCast_mul, Int.natCast_pow]; rfl
    rw [this, ← hq]
    omega
  by_cases hor : bitI .or .u64 (u 1) (u 2) = 0
  · simp only [rndB0, rndOf, rndD, rndB0R, Keeps, chain, unOne, List.length, SameL, f2, nn, w64, v, bi, un, E.prop, E.den, Bi.den, Un.den, hn, Nat.beq, hK, hR, hor]
    have hz2 := (or_null h1 h2).1 hor
    have hR0 := h0 (by omega)
    by_cases hz : u 0 = 0 <;> simp [hz, b2i, hR0]
  have hS := hS hor
  by_cases hz : u 0 = 0
  · have c1 : (b2i (b2i (u 0 == 0) == 0) ≠ 0) = False := by simp [hz, b2i]
    have c2 : (u 0 ≠ 0) = False := by simp [hz]
    simp only [rndB0, rndOf, rndD, rndB0R, Keeps, chain, unOne, List.length, SameL, f2, nn, w64, v, bi, un, E.prop, E.den, Bi.den, Un.den, hn, Nat.beq, c1, c2, if_false, if_true, hK, hR, hS]
    refine ⟨?_, ?_, ?_, ?_, ?_, ?_, ?_, ?_, ?_, ?_, ?_, ?_, ?_, ?_, ?_, ?_, ?_, ?_, ?_, ?_, ?_, trivial⟩
    · intro a1 a2 a3 a4 a5
      have hz2 := (or_null h1 h2).1 a5
      exact ⟨trivial, by rw [h0 (by omega)]; rfl, trivial⟩
    · intro a1 a2 a3 a4 a5 a6 a7 a8 a9 b0 b1
      obtain ⟨M, f2, hi, lo, hr⟩ := core a5
      clear core
      have hu5 : u 5 = M := by rw [a7, f2, u64_wr]; omega
      have hc : lost q K = 1 := by rw [← F3, ← a8, a9]
      rw [if_pos (.inl hc)] at hr
      have hx : IntKind.u64.wrap (u 5 + 1) = (M : Int) + 1 := by rw [hu5, u64_wr]; omega
      obtain ⟨g1, g2, g3, g4, g5⟩ := five (s := 0) (I := 9218868437227405312) (by decide) (by decide) (by omega) hT (fun h => lo (by omega)) hr hx (E1 := u 3 + K + 1076) (by omega) (E2 := u 3 + K + 1075) (by omega)
      exact ⟨trivial, g1 b0 b1, trivial⟩
    · intro a1 a2 a3 a4 a5 a6 a7 a8 a9 b0 b1
      obtain ⟨M, f2, hi, lo, hr⟩ := core a5
      clear core
      have hu5 : u 5 = M := by rw [a7, f2, u64_wr]; omega
      have hc : lost q K = 1 := by rw [← F3, ← a8, a9]
      rw [if_pos (.inl hc)] at hr
      have hx : IntKind.u64.wrap (u 5 + 1) = (M : Int) + 1 := by rw [hu5, u64_wr]; omega
      obtain ⟨g1, g2, g3, g4, g5⟩ := five (s := 0) (I := 9218868437227405312) (by decide) (by decide) (by omega) hT (fun h => lo (by omega)) hr hx (E1 := u 3 + K + 1076) (by omega) (E2 := u 3 + K + 1075) (by omega)
      exact ⟨trivial, g2 b0 b1, trivial⟩
    · intro a1 a2 a3 a4 a5 a6 a7 a8 a9 b0 b1
      obtain ⟨M, f2, hi, lo, hr⟩ := core a5
      clear core
      have hu5 : u 5 = M := by rw [a7, f2, u64_wr]; omega
      have hc : lost q K = 1 := by rw [← F3, ← a8, a9]
      rw [if_pos (.inl hc)] at hr
      have hx : IntKind.u64.wrap (u 5 + 1) = (M : Int) + 1 := by rw [hu5, u64_wr]; omega
      obtain ⟨g1, g2, g3, g4, g5⟩ := five (s := 0) (I := 9218868437227405312) (by decide) (by decide) (by omega) hT (fun h => lo (by omega)) hr hx (E1 := u 3 + K + 1076) (by omega) (E2 := u 3 + K + 1075) (by omega)
      exact ⟨trivial, g3 b0 b1, trivial⟩
    · intro a1 a2 a3 a4 a5 a6 a7 a8 a9 b0 b1 b2
      obtain ⟨M, f2, hi, lo, hr⟩ := core a5
      clear core
      have hu5 : u 5 = M := by rw [a7, f2, u64_wr]; omega
      have hc : lost q K = 1 := by rw [← F3, ← a8, a9]
      rw [if_pos (.inl hc)] at hr
      have hx : IntKind.u64.wrap (u 5 + 1) = (M : Int) + 1 := by rw [hu5, u64_wr]; omega
      obtain ⟨g1, g2, g3, g4, g5⟩ := five (s := 0) (I := 9218868437227405312) (by decide) (by decide) (by omega) hT (fun h => lo (by omega)) hr hx (E1 := u 3 + K + 1076) (by omega) (E2 := u 3 + K + 1075) (by omega)
      exact ⟨trivial, g4 b0 b1 b2, trivial⟩
    · intro a1 a2 a3 a4 a5 a6 a7 a8 a9 b0 b1 b2
      obtain ⟨M, f2, hi, lo, hr⟩ := core a5
      clear core
      have hu5 : u 5 = M := by rw [a7, f2, u64_wr]; omega
      have hc : lost q K = 1 := by rw [← F3, ← a8, a9]
      rw [if_pos (.inl hc)] at hr
      have hx : IntKind.u64.wrap (u 5 + 1) = (M : Int) + 1 := by rw [hu5, u64_wr]; omega
      obtain ⟨g1, g2, g3, g4, g5⟩ := five (s := 0) (I := 9218868437227405312) (by decide) (by decide) (by omega) hT (fun h => lo (by omega)) hr hx (E1 := u 3 + K + 1076) (by omega) (E2 := u 3 + K + 1075) (by omega)
      exact ⟨trivial, g5 b0 b1 b2, trivial⟩
    · intro a1 a2 a3 a4 a5 a6 a7 a8 a9 a10 a11 b0 b1
      obtain ⟨M, f2, hi, lo, hr⟩ := core a5
      clear core
      have hu5 : u 5 = M := by rw [a7, f2, u64_wr]; omega
      have hc : lost q K = 0 := by rw [← F3, ← a8, a10]
      rw [if_pos (.inr ⟨hc, by rw [hu5] at a11; omega⟩)] at hr
      have hx : IntKind.u64.wrap (u 5 + 1) = (M : Int) + 1 := by rw [hu5, u64_wr]; omega
      obtain ⟨g1, g2, g3, g4, g5⟩ := five (s := 0) (I := 9218868437227405312) (by decide) (by decide) (by omega) hT (fun h => lo (by omega)) hr hx (E1 := u 3 + K + 1076) (by omega) (E2 := u 3 + K + 1075) (by omega)
      exact ⟨trivial, g1 b0 b1, trivial⟩
    · intro a1 a2 a3 a4 a5 a6 a7 a8 a9 a10 a11 b0 b1
      obtain ⟨M, f2, hi, lo, hr⟩ := core a5
      clear core
      have hu5 : u 5 = M := by rw [a7, f2, u64_wr]; omega
      have hc : lost q K = 0 := by rw [← F3, ← a8, a10]
      rw [if_pos (.inr ⟨hc, by rw [hu5] at a11; omega⟩)] at hr
      have hx : IntKind.u64.wrap (u 5 + 1) = (M : Int) + 1 := by rw [hu5, u64_wr]; omega
      obtain ⟨g1, g2, g3, g4, g5⟩ := five (s := 0) (I := 9218868437227405312) (by decide) (by decide) (by omega) hT (fun h => lo (by omega)) hr hx (E1 := u 3 + K + 1076) (by omega) (E2 := u 3 + K + 1075) (by omega)
      exact ⟨trivial, g2 b0 b1, trivial⟩
    · intro a1 a2 a3 a4 a5 a6 a7 a8 a9 a10 a11 b0 b1
      obtain ⟨M, f2, hi, lo, hr⟩ := core a5
      clear core
      have hu5 : u 5 = M := by rw [a7, f2, u64_wr]; omega
      have hc : lost q K = 0 := by rw [← F3, ← a8, a10]
      rw [if_pos (.inr ⟨hc, by rw [hu5] at a11; omega⟩)] at hr
      have hx : IntKind.u64.wrap (u 5 + 1) = (M : Int) + 1 := by rw [hu5, u64_wr]; omega
      obtain ⟨g1, g2, g3, g4, g5⟩ := five (s := 0) (I := 9218868437227405312) (by decide) (by decide) (by omega) hT (fun h => lo (by omega)) hr hx (E1 := u 3 + K + 1076) (by omega) (E2 := u 3 + K + 1075) (by omega)
      exact ⟨trivial, g3 b0 b1, trivial⟩
    · intro a1 a2 a3 a4 a5 a6 a7 a8 a9 a10 a11 b0 b1 b2
      obtain ⟨M, f2, hi, lo, hr⟩ := core a5
      clear core
      have hu5 : u 5 = M := by rw [a7, f2, u64_wr]; omega
      have hc : lost q K = 0 := by rw [← F3, ← a8, a10]
      rw [if_pos (.inr ⟨hc, by rw [hu5] at a11; omega⟩)] at hr
      have hx : IntKind.u64.wrap (u 5 + 1) = (M : Int) + 1 := by rw [hu5, u64_wr]; omega
      obtain ⟨g1, g2, g3, g4, g5⟩ := five (s := 0) (I := 9218868437227405312) (by decide) (by decide) (by omega) hT (fun h => lo (by omega)) hr hx (E1 := u 3 + K + 1076) (by omega) (E2 := u 3 + K + 1075) (by omega)
      exact ⟨trivial, g4 b0 b1 b2, trivial⟩
    · intro a1 a2 a3 a4 a5 a6 a7 a8 a9 a10 a11 b0 b1 b2
      obtain ⟨M, f2, hi, lo, hr⟩ := core a5
      clear core
      have hu5 : u 5 = M := by rw [a7, f2, u64_wr]; omega
      have hc : lost q K = 0 := by rw [← F3, ← a8, a10]
      rw [if_pos (.inr ⟨hc, by rw [hu5] at a11; omega⟩)] at hr
      have hx : IntKind.u64.wrap (u 5 + 1) = (M : Int) + 1 := by rw [hu5, u64_wr]; omega
      obtain ⟨g1, g2, g3, g4, g5⟩ := five (s := 0) (I := 9218868437227405312) (by decide) (by decide) (by omega) hT (fun h => lo (by omega)) hr hx (E1 := u 3 + K + 1076) (by omega) (E2 := u 3 + K + 1075) (by omega)
      exact ⟨trivial, g5 b0 b1 b2, trivial⟩
    · intro a1 a2 a3 a4 a5 a6 a7 a8 a9 a10 a11 b0 b1
      obtain ⟨M, f2, hi, lo, hr⟩ := core a5
      clear core
      have hu5 : u 5 = M := by rw [a7, f2, u64_wr]; omega
      have hc : lost q K = 0 := by rw [← F3, ← a8, a10]
      rw [if_neg (by rw [hu5] at a11; omega)] at hr
      have hx : u 5 = (M : Int) + 0 := by rw [hu5]; omega
      obtain ⟨g1, g2, g3, g4, g5⟩ := five (s := 0) (I := 9218868437227405312) (by decide) (by decide) (by omega) hT (fun h => lo (by omega)) hr hx (E1 := u 3 + K + 1076) (by omega) (E2 := u 3 + K + 1075) (by omega)
      exact ⟨trivial, g1 b0 b1, trivial⟩
    · intro a1 a2 a3 a4 a5 a6 a7 a8 a9 a10 a11 b0 b1
      obtain ⟨M, f2, hi, lo, hr⟩ := core a5
      clear core
      have hu5 : u 5 = M := by rw [a7, f2, u64_wr]; omega
      have hc : lost q K = 0 := by rw [← F3, ← a8, a10]
      rw [if_neg (by rw [hu5] at a11; omega)] at hr
      have hx : u 5 = (M : Int) + 0 := by rw [hu5]; omega
      obtain ⟨g1, g2, g3, g4, g5⟩ := five (s := 0) (I := 9218868437227405312) (by decide) (by decide) (by omega) hT (fun h => lo (by omega)) hr hx (E1 := u 3 + K + 1076) (by omega) (E2 := u 3 + K + 1075) (by omega)
      exact ⟨trivial, g2 b0 b1, trivial⟩
    · intro a1 a2 a3 a4 a5 a6 a7 a8 a9 a10 a11 b0 b1
      obtain ⟨M, f2, hi, lo, hr⟩ := core a5
      clear core
      have hu5 : u 5 = M := by rw [a7, f2, u64_wr]; omega
      have hc : lost q K = 0 := by rw [← F3, ← a8, a10]
      rw [if_neg (by rw [hu5] at a11; omega)] at hr
      have hx : u 5 = (M : Int) + 0 := by rw [hu5]; omega
      obtain ⟨g1, g2, g3, g4, g5⟩ := five (s := 0) (I := 9218868437227405312) (by decide) (by decide) (by omega) hT (fun h => lo (by omega)) hr hx (E1 := u 3 + K + 1076) (by omega) (E2 := u 3 + K + 1075) (by omega)
      exact ⟨trivial, g3 b0 b1, trivial⟩
    · intro a1 a2 a3 a4 a5 a6 a7 a8 a9 a10 a11 b0 b1 b2
      obtain ⟨M, f2, hi, lo, hr⟩ := core a5
      clear core
      have hu5 : u 5 = M := by rw [a7, f2, u64_wr]; omega
      have hc : lost q K = 0 := by rw [← F3, ← a8, a10]
      rw [if_neg (by rw [hu5] at a11; omega)] at hr
      have hx : u 5 = (M : Int) + 0 := by rw [hu5]; omega
      obtain ⟨g1, g2, g3, g4, g5⟩ := five (s := 0) (I := 9218868437227405312) (by decide) (by decide) (by omega) hT (fun h => lo (by omega)) hr hx (E1 := u 3 + K + 1076) (by omega) (E2 := u 3 + K + 1075) (by omega)
      exact ⟨trivial, g4 b0 b1 b2, trivial⟩
    · intro a1 a2 a3 a4 a5 a6 a7 a8 a9 a10 a11 b0 b1 b2
      obtain ⟨M, f2, hi, lo, hr⟩ := core a5
      clear core
      have hu5 : u 5 = M := by rw [a7, f2, u64_wr]; omega
      have hc : lost q K = 0 := by rw [← F3, ← a8, a10]
      rw [if_neg (by rw [hu5] at a11; omega)] at hr
      have hx : u 5 = (M : Int) + 0 := by rw [hu5]; omega
      obtain ⟨g1, g2, g3, g4, g5⟩ := five (s := 0) (I := 9218868437227405312) (by decide) (by decide) (by omega) hT (fun h => lo (by omega)) hr hx (E1 := u 3 + K + 1076) (by omega) (E2 := u 3 + K + 1075) (by omega)
      exact ⟨trivial, g5 b0 b1 b2, trivial⟩
    · intro a1 a2 a3 a4 a5 a6 a7 a8 a9 a10 b0 b1
      obtain ⟨M, f2, hi, lo, hr⟩ := core a5
      clear core
      have hu5 : u 5 = M := by rw [a7, f2, u64_wr]; omega
      have hc : ¬ lost q K = 0 ∧ ¬ lost q K = 1 := by rw [← F3, ← a8]; exact ⟨a10, a9⟩
      rw [if_neg (by omega)] at hr
      have hx : u 5 = (M : Int) + 0 := by rw [hu5]; omega
      obtain ⟨g1, g2, g3, g4, g5⟩ := five (s := 0) (I := 9218868437227405312) (by decide) (by decide) (by omega) hT (fun h => lo (by omega)) hr hx (E1 := u 3 + K + 1076) (by omega) (E2 := u 3 + K + 1075) (by omega)
      exact ⟨trivial, g1 b0 b1, trivial⟩
    · intro a1 a2 a3 a4 a5 a6 a7 a8 a9 a10 b0 b1
      obtain ⟨M, f2, hi, lo, hr⟩ := core a5
      clear core
      have hu5 : u 5 = M := by rw [a7, f2, u64_wr]; omega
      have hc : ¬ lost q K = 0 ∧ ¬ lost q K = 1 := by rw [← F3, ← a8]; exact ⟨a10, a9⟩
      rw [if_neg (by omega)] at hr
      have hx : u 5 = (M : Int) + 0 := by rw [hu5]; omega
      obtain ⟨g1, g2, g3, g4, g5⟩ := five (s := 0) (I := 9218868437227405312) (by decide) (by decide) (by omega) hT (fun h => lo (by omega)) hr hx (E1 := u 3 + K + 1076) (by omega) (E2 := u 3 + K + 1075) (by omega)
      exact ⟨trivial, g2 b0 b1, trivial⟩
    · intro a1 a2 a3 a4 a5 a6 a7 a8 a9 a10 b0 b1
      obtain ⟨M, f2, hi, lo, hr⟩ := core a5
      clear core
      have hu5 : u 5 = M := by rw [a7, f2, u64_wr]; omega
      have hc : ¬ lost q K = 0 ∧ ¬ lost q K = 1 := by rw [← F3, ← a8]; exact ⟨a10, a9⟩
      rw [if_neg (by omega)] at hr
      have hx : u 5 = (M : Int) + 0 := by rw [hu5]; omega
      obtain ⟨g1, g2, g3, g4, g5⟩ := five (s := 0) (I := 9218868437227405312) (by decide) (by decide) (by omega) hT (fun h => lo (by omega)) hr hx (E1 := u 3 + K + 1076) (by omega) (E2 := u 3 + K + 1075) (by omega)
      exact ⟨trivial, g3 b0 b1, trivial⟩
    · intro a1 a2 a3 a4 a5 a6 a7 a8 a9 a10 b0 b1 b2
      obtain ⟨M, f2, hi, lo, hr⟩ := core a5
      clear core
      have hu5 : u 5 = M := by rw [a7, f2, u64_wr]; omega
      have hc : ¬ lost q K = 0 ∧ ¬ lost q K = 1 := by rw [← F3, ← a8]; exact ⟨a10, a9⟩
      rw [if_neg (by omega)] at hr
      have hx : u 5 = (M : Int) + 0 := by rw [hu5]; omega
      obtain ⟨g1, g2, g3, g4, g5⟩ := five (s := 0) (I := 9218868437227405312) (by decide) (by decide) (by omega) hT (fun h => lo (by omega)) hr hx (E1 := u 3 + K + 1076) (by omega) (E2 := u 3 + K + 1075) (by omega)
      exact ⟨trivial, g4 b0 b1 b2, trivial⟩
    · intro a1 a2 a3 a4 a5 a6 a7 a8 a9 a10 b0 b1 b2
      obtain ⟨M, f2, hi, lo, hr⟩ := core a5
      clear core
      have hu5 : u 5 = M := by rw [a7, f2, u64_wr]; omega
      have hc : ¬ lost q K = 0 ∧ ¬ lost q K = 1 := by rw [← F3, ← a8]; exact ⟨a10, a9⟩
      rw [if_neg (by omega)] at hr
      have hx : u 5 = (M : Int) + 0 := by rw [hu5]; omega
      obtain ⟨g1, g2, g3, g4, g5⟩ := five (s := 0) (I := 9218868437227405312) (by decide) (by decide) (by omega) hT (fun h => lo (by omega)) hr hx (E1 := u 3 + K + 1076) (by omega) (E2 := u 3 + K + 1075) (by omega)
      exact ⟨trivial, g5 b0 b1 b2, trivial⟩
  · have c1 : (b2i (b2i (u 0 == 0) == 0) ≠ 0) = True := by simp [hz, b2i]
    have c2 : (u 0 ≠ 0) = True := by simp [hz]
    simp only [rndB0, rndOf, rndD, rndB0R, Keeps, chain, unOne, List.length, SameL, f2, nn, w64, v, bi, un, E.prop, E.den, Bi.den, Un.den, hn, Nat.beq, c1, c2, if_false, if_true, hK, hR, hS]
    refine ⟨?_, ?_, ?_, ?_, ?_, ?_, ?_, ?_, ?_, ?_, ?_, ?_, ?_, ?_, ?_, ?_, ?_, ?_, ?_, ?_, ?_, trivial⟩
    · intro a1 a2 a3 a4 a5
      have hz2 := (or_null h1 h2).1 a5
      exact ⟨trivial, by rw [h0 (by omega)]; rfl, trivial⟩
    · intro a1 a2 a3 a4 a5 a6 a7 a8 a9 b0 b1
      obtain ⟨M, f2, hi, lo, hr⟩ := core a5
      clear core
      have hu5 : u 5 = M := by rw [a7, f2, u64_wr]; omega
      have hc : lost q K = 1 := by rw [← F3, ← a8, a9]
      rw [if_pos (.inl hc)] at hr
      have hx : IntKind.u64.wrap (u 5 + 1) = (M : Int) + 1 := by rw [hu5, u64_wr]; omega
      obtain ⟨g1, g2, g3, g4, g5⟩ := five (s := 9223372036854775808) (I := 18442240474082181120) (by decide) (by decide) (by omega) hT (fun h => lo (by omega)) hr hx (E1 := u 3 + K + 1076) (by omega) (E2 := u 3 + K + 1075) (by omega)
      exact ⟨trivial, g1 b0 b1, trivial⟩
    · intro a1 a2 a3 a4 a5 a6 a7 a8 a9 b0 b1
      obtain ⟨M, f2, hi, lo, hr⟩ := core a5
      clear core
      have hu5 : u 5 = M := by rw [a7, f2, u64_wr]; omega
      have hc : lost q K = 1 := by rw [← F3, ← a8, a9]
      rw [if_pos (.inl hc)] at hr
      have hx : IntKind.u64.wrap (u 5 + 1) = (M : Int) + 1 := by rw [hu5, u64_wr]; omega
      obtain ⟨g1, g2, g3, g4, g5⟩ := five (s := 9223372036854775808) (I := 18442240474082181120) (by decide) (by decide) (by omega) hT (fun h => lo (by omega)) hr hx (E1 := u 3 + K + 1076) (by omega) (E2 := u 3 + K + 1075) (by omega)
      exact ⟨trivial, g2 b0 b1, trivial⟩
    · intro a1 a2 a3 a4 a5 a6 a7 a8 a9 b0 b1
      obtain ⟨M, f2, hi, lo, hr⟩ := core a5
      clear core
      have hu5 : u 5 = M := by rw [a7, f2, u64_wr]; omega
      have hc : lost q K = 1 := by rw [← F3, ← a8, a9]
      rw [if_pos (.inl hc)] at hr
      have hx : IntKind.u64.wrap (u 5 + 1) = (M : Int) + 1 := by rw [hu5, u64_wr]; omega
      obtain ⟨g1, g2, g3, g4, g5⟩ := five (s := 9223372036854775808) (I := 18442240474082181120) (by decide) (by decide) (by omega) hT (fun h => lo (by omega)) hr hx (E1 := u 3 + K + 1076) (by omega) (E2 := u 3 + K + 1075) (by omega)
      exact ⟨trivial, g3 b0 b1, trivial⟩
    · intro a1 a2 a3 a4 a5 a6 a7 a8 a9 b0 b1 b2
      obtain ⟨M, f2, hi, lo, hr⟩ := core a5
      clear core
      have hu5 : u 5 = M := by rw [a7, f2, u64_wr]; omega
      have hc : lost q K = 1 := by rw [← F3, ← a8, a9]
      rw [if_pos (.inl hc)] at hr
      have hx : IntKind.u64.wrap (u 5 + 1) = (M : Int) + 1 := by rw [hu5, u64_wr]; omega
      obtain ⟨g1, g2, g3, g4, g5⟩ := five (s := 9223372036854775808) (I := 18442240474082181120) (by decide) (by decide) (by omega) hT (fun h => lo (by omega)) hr hx (E1 := u 3 + K + 1076) (by omega) (E2 := u 3 + K + 1075) (by omega)
      exact ⟨trivial, g4 b0 b1 b2, trivial⟩
    · intro a1 a2 a3 a4 a5 a6 a7 a8 a9 b0 b1 b2
      obtain ⟨M, f2, hi, lo, hr⟩ := core a5
      clear core
      have hu5 : u 5 = M := by rw [a7, f2, u64_wr]; omega
      have hc : lost q K = 1 := by rw [← F3, ← a8, a9]
      rw [if_pos (.inl hc)] at hr
      have hx : IntKind.u64.wrap (u 5 + 1) = (M : Int) + 1 := by rw [hu5, u64_wr]; omega
      obtain ⟨g1, g2, g3, g4, g5⟩ := five (s := 9223372036854775808) (I := 18442240474082181120) (by decide) (by decide) (by omega) hT (fun h => lo (by omega)) hr hx (E1 := u 3 + K + 1076) (by omega) (E2 := u 3 + K + 1075) (by omega)
      exact ⟨trivial, g5 b0 b1 b2, trivial⟩
    · intro a1 a2 a3 a4 a5 a6 a7 a8 a9 a10 a11 b0 b1
      obtain ⟨M, f2, hi, lo, hr⟩ := core a5
      clear core
      have hu5 : u 5 = M := by rw [a7, f2, u64_wr]; omega
      have hc : lost q K = 0 := by rw [← F3, ← a8, a10]
      rw [if_pos (.inr ⟨hc, by rw [hu5] at a11; omega⟩)] at hr
      have hx : IntKind.u64.wrap (u 5 + 1) = (M : Int) + 1 := by rw [hu5, u64_wr]; omega
      obtain ⟨g1, g2, g3, g4, g5⟩ := five (s := 9223372036854775808) (I := 18442240474082181120) (by decide) (by decide) (by omega) hT (fun h => lo (by omega)) hr hx (E1 := u 3 + K + 1076) (by omega) (E2 := u 3 + K + 1075) (by omega)
      exact ⟨trivial, g1 b0 b1, trivial⟩
    · intro a1 a2 a3 a4 a5 a6 a7 a8 a9 a10 a11 b0 b1
      obtain ⟨M, f2, hi, lo, hr⟩ := core a5
      clear core
      have hu5 : u 5 = M := by rw [a7, f2, u64_wr]; omega
      have hc : lost q K = 0 := by rw [← F3, ← a8, a10]
      rw [if_pos (.inr ⟨hc, by rw [hu5] at a11; omega⟩)] at hr
      have hx : IntKind.u64.wrap (u 5 + 1) = (M : Int) + 1 := by rw [hu5, u64_wr]; omega
      obtain ⟨g1, g2, g3, g4, g5⟩ := five (s := 9223372036854775808) (I := 18442240474082181120) (by decide) (by decide) (by omega) hT (fun h => lo (by omega)) hr hx (E1 := u 3 + K + 1076) (by omega) (E2 := u 3 + K + 1075) (by omega)
      exact ⟨trivial, g2 b0 b1, trivial⟩
    · intro a1 a2 a3 a4 a5 a6 a7 a8 a9 a10 a11 b0 b1
      obtain ⟨M, f2, hi, lo, hr⟩ := core a5
      clear core
      have hu5 : u 5 = M := by rw [a7, f2, u64_wr]; omega
      have hc : lost q K = 0 := by rw [← F3, ← a8, a10]
      rw [if_pos (.inr ⟨hc, by rw [hu5] at a11; omega⟩)] at hr
      have hx : IntKind.u64.wrap (u 5 + 1) = (M : Int) + 1 := by rw [hu5, u64_wr]; omega
      obtain ⟨g1, g2, g3, g4, g5⟩ := five (s := 9223372036854775808) (I := 18442240474082181120) (by decide) (by decide) (by omega) hT (fun h => lo (by omega)) hr hx (E1 := u 3 + K + 1076) (by omega) (E2 := u 3 + K + 1075) (by omega)
      exact ⟨trivial, g3 b0 b1, trivial⟩
    · intro a1 a2 a3 a4 a5 a6 a7 a8 a9 a10 a11 b0 b1 b2
      obtain ⟨M, f2, hi, lo, hr⟩ := core a5
      clear core
      have hu5 : u 5 = M := by rw [a7, f2, u64_wr]; omega
      have hc : lost q K = 0 := by rw [← F3, ← a8, a10]
      rw [if_pos (.inr ⟨hc, by rw [hu5] at a11; omega⟩)] at hr
      have hx : IntKind.u64.wrap (u 5 + 1) = (M : Int) + 1 := by rw [hu5, u64_wr]; omega
      obtain ⟨g1, g2, g3, g4, g5⟩ := five (s := 9223372036854775808) (I := 18442240474082181120) (by decide) (by decide) (by omega) hT (fun h => lo (by omega)) hr hx (E1 := u 3 + K + 1076) (by omega) (E2 := u 3 + K + 1075) (by omega)
      exact ⟨trivial, g4 b0 b1 b2, trivial⟩
    · intro a1 a2 a3 a4 a5 a6 a7 a8 a9 a10 a11 b0 b1 b2
      obtain ⟨M, f2, hi, lo, hr⟩ := core a5
      clear core
      have hu5 : u 5 = M := by rw [a7, f2, u64_wr]; omega
      have hc : lost q K = 0 := by rw [← F3, ← a8, a10]
      rw [if_pos (.inr ⟨hc, by rw [hu5] at a11; omega⟩)] at hr
      have hx : IntKind.u64.wrap (u 5 + 1) = (M : Int) + 1 := by rw [hu5, u64_wr]; omega
      obtain ⟨g1, g2, g3, g4, g5⟩ := five (s := 9223372036854775808) (I := 18442240474082181120) (by decide) (by decide) (by omega) hT (fun h => lo (by omega)) hr hx (E1 := u 3 + K + 1076) (by omega) (E2 := u 3 + K + 1075) (by omega)
      exact ⟨trivial, g5 b0 b1 b2, trivial⟩
    · intro a1 a2 a3 a4 a5 a6 a7 a8 a9 a10 a11 b0 b1
      obtain ⟨M, f2, hi, lo, hr⟩ := core a5
      clear core
      have hu5 : u 5 = M := by rw [a7, f2, u64_wr]; omega
      have hc : lost q K = 0 := by rw [← F3, ← a8, a10]
      rw [if_neg (by rw [hu5] at a11; omega)] at hr
      have hx : u 5 = (M : Int) + 0 := by rw [hu5]; omega
      obtain ⟨g1, g2, g3, g4, g5⟩ := five (s := 9223372036854775808) (I := 18442240474082181120) (by decide) (by decide) (by omega) hT (fun h => lo (by omega)) hr hx (E1 := u 3 + K + 1076) (by omega) (E2 := u 3 + K + 1075) (by omega)
      exact ⟨trivial, g1 b0 b1, trivial⟩
    · intro a1 a2 a3 a4 a5 a6 a7 a8 a9 a10 a11 b0 b1
      obtain ⟨M, f2, hi, lo, hr⟩ := core a5
      clear core
      have hu5 : u 5 = M := by rw [a7, f2, u64_wr]; omega
      have hc : lost q K = 0 := by rw [← F3, ← a8, a10]
      rw [if_neg (by rw [hu5] at a11; omega)] at hr
      have hx : u 5 = (M : Int) + 0 := by rw [hu5]; omega
      obtain ⟨g1, g2, g3, g4, g5⟩ := five (s := 9223372036854775808) (I := 18442240474082181120) (by decide) (by decide) (by omega) hT (fun h => lo (by omega)) hr hx (E1 := u 3 + K + 1076) (by omega) (E2 := u 3 + K + 1075) (by omega)
      exact ⟨trivial, g2 b0 b1, trivial⟩
    · intro a1 a2 a3 a4 a5 a6 a7 a8 a9 a10 a11 b0 b1
      obtain ⟨M, f2, hi, lo, hr⟩ := core a5
      clear core
      have hu5 : u 5 = M := by rw [a7, f2, u64_wr]; omega
      have hc : lost q K = 0 := by rw [← F3, ← a8, a10]
      rw [if_neg (by rw [hu5] at a11; omega)] at hr
      have hx : u 5 = (M : Int) + 0 := by rw [hu5]; omega
      obtain ⟨g1, g2, g3, g4, g5⟩ := five (s := 9223372036854775808) (I := 18442240474082181120) (by decide) (by decide) (by omega) hT (fun h => lo (by omega)) hr hx (E1 := u 3 + K + 1076) (by omega) (E2 := u 3 + K + 1075) (by omega)
      exact ⟨trivial, g3 b0 b1, trivial⟩
    · intro a1 a2 a3 a4 a5 a6 a7 a8 a9 a10 a11 b0 b1 b2
      obtain ⟨M, f2, hi, lo, hr⟩ := core a5
      clear core
      have hu5 : u 5 = M := by rw [a7, f2, u64_wr]; omega
      have hc : lost q K = 0 := by rw [← F3, ← a8, a10]
      rw [if_neg (by rw [hu5] at a11; omega)] at hr
      have hx : u 5 = (M : Int) + 0 := by rw [hu5]; omega
      obtain ⟨g1, g2, g3, g4, g5⟩ := five (s := 9223372036854775808) (I := 18442240474082181120) (by decide) (by decide) (by omega) hT (fun h => lo (by omega)) hr hx (E1 := u 3 + K + 1076) (by omega) (E2 := u 3 + K + 1075) (by omega)
      exact ⟨trivial, g4 b0 b1 b2, trivial⟩
    · intro a1 a2 a3 a4 a5 a6 a7 a8 a9 a10 a11 b0 b1 b2
      obtain ⟨M, f2, hi, lo, hr⟩ := core a5
      clear core
      have hu5 : u 5 = M := by rw [a7, f2, u64_wr]; omega
      have hc : lost q K = 0 := by rw [← F3, ← a8, a10]
      rw [if_neg (by rw [hu5] at a11; omega)] at hr
      have hx : u 5 = (M : Int) + 0 := by rw [hu5]; omega
      obtain ⟨g1, g2, g3, g4, g5⟩ := five (s := 9223372036854775808) (I := 18442240474082181120) (by decide) (by decide) (by omega) hT (fun h => lo (by omega)) hr hx (E1 := u 3 + K + 1076) (by omega) (E2 := u 3 + K + 1075) (by omega)
      exact ⟨trivial, g5 b0 b1 b2, trivial⟩
    · intro a1 a2 a3 a4 a5 a6 a7 a8 a9 a10 b0 b1
      obtain ⟨M, f2, hi, lo, hr⟩ := core a5
      clear core
      have hu5 : u 5 = M := by rw [a7, f2, u64_wr]; omega
      have hc : ¬ lost q K = 0 ∧ ¬ lost q K = 1 := by rw [← F3, ← a8]; exact ⟨a10, a9⟩
      rw [if_neg (by omega)] at hr
      have hx : u 5 = (M : Int) + 0 := by rw [hu5]; omega
      obtain ⟨g1, g2, g3, g4, g5⟩ := five (s := 9223372036854775808) (I := 18442240474082181120) (by decide) (by decide) (by omega) hT (fun h => lo (by omega)) hr hx (E1 := u 3 + K + 1076) (by omega) (E2 := u 3 + K + 1075) (by omega)
      exact ⟨trivial, g1 b0 b1, trivial⟩
    · intro a1 a2 a3 a4 a5 a6 a7 a8 a9 a10 b0 b1
      obtain ⟨M, f2, hi, lo, hr⟩ := core a5
      clear core
      have hu5 : u 5 = M := by rw [a7, f2, u64_wr]; omega
      have hc : ¬ lost q K = 0 ∧ ¬ lost q K = 1 := by rw [← F3, ← a8]; exact ⟨a10, a9⟩
      rw [if_neg (by omega)] at hr
      have hx : u 5 = (M : Int) + 0 := by rw [hu5]; omega
      obtain ⟨g1, g2, g3, g4, g5⟩ := five (s := 9223372036854775808) (I := 18442240474082181120) (by decide) (by decide) (by omega) hT (fun h => lo (by omega)) hr hx (E1 := u 3 + K + 1076) (by omega) (E2 := u 3 + K + 1075) (by omega)
      exact ⟨trivial, g2 b0 b1, trivial⟩
    · intro a1 a2 a3 a4 a5 a6 a7 a8 a9 a10 b0 b1
      obtain ⟨M, f2, hi, lo, hr⟩ := core a5
      clear core
      have hu5 : u 5 = M := by rw [a7, f2, u64_wr]; omega
      have hc : ¬ lost q K = 0 ∧ ¬ lost q K = 1 := by rw [← F3, ← a8]; exact ⟨a10, a9⟩
      rw [if_neg (by omega)] at hr
      have hx : u 5 = (M : Int) + 0 := by rw [hu5]; omega
      obtain ⟨g1, g2, g3, g4, g5⟩ := five (s := 9223372036854775808) (I := 18442240474082181120) (by decide) (by decide) (by omega) hT (fun h => lo (by omega)) hr hx (E1 := u 3 + K + 1076) (by omega) (E2 := u 3 + K + 1075) (by omega)
      exact ⟨trivial, g3 b0 b1, trivial⟩
    · intro a1 a2 a3 a4 a5 a6 a7 a8 a9 a10 b0 b1 b2
      obtain ⟨M, f2, hi, lo, hr⟩ := core a5
      clear core
      have hu5 : u 5 = M := by rw [a7, f2, u64_wr]; omega
      have hc : ¬ lost q K = 0 ∧ ¬ lost q K = 1 := by rw [← F3, ← a8]; exact ⟨a10, a9⟩
      rw [if_neg (by omega)] at hr
      have hx : u 5 = (M : Int) + 0 := by rw [hu5]; omega
      obtain ⟨g1, g2, g3, g4, g5⟩ := five (s := 9223372036854775808) (I := 18442240474082181120) (by decide) (by decide) (by omega) hT (fun h => lo (by omega)) hr hx (E1 := u 3 + K + 1076) (by omega) (E2 := u 3 + K + 1075) (by omega)
      exact ⟨trivial, g4 b0 b1 b2, trivial⟩
    · intro a1 a2 a3 a4 a5 a6 a7 a8 a9 a10 b0 b1 b2
      obtain ⟨M, f2, hi, lo, hr⟩ := core a5
      clear core
      have hu5 : u 5 = M := by rw [a7, f2, u64_wr]; omega
      have hc : ¬ lost q K = 0 ∧ ¬ lost q K = 1 := by rw [← F3, ← a8]; exact ⟨a10, a9⟩
      rw [if_neg (by omega)] at hr
      have hx : u 5 = (M : Int) + 0 := by rw [hu5]; omega
      obtain ⟨g1, g2, g3, g4, g5⟩ := five (s := 9223372036854775808) (I := 18442240474082181120) (by decide) (by decide) (by omega) hT (fun h => lo (by omega)) hr hx (E1 := u 3 + K + 1076) (by omega) (E2 := u 3 + K + 1075) (by omega)
      exact ⟨trivial, g5 b0 b1 b2, trivial⟩
end Go.Proofs.Ytnodelimomljbaa.PlainRndB0

/- The ways of the reference's floats through numbers, and that the code takes no other. No condition. -/
namespace Go.Proofs.Ytnodelimomljbaa.RunRndB1
open Go Go.Sx Go.Sx.Flt Go.Sx.Ref

def rndB1R : List Leaf := [
  ([(.bin .eq (.bin (.bits .or .u64) (.var 1) (.var 2)) (.lit 0)), (.bin .le (.lit 0) (.bin .add (.fn 0 (.bin .add (.bin .mul (.var 1) (.lit 18446744073709551616)) (.var 2)) (.lit 0) (.lit 0)) (.lit (-53)))), (.bin .le (.bin .sub (.lit (-1074)) (.var 3)) (.bin .add (.fn 0 (.bin .add (.bin .mul (.var 1) (.lit 18446744073709551616)) (.var 2)) (.lit 0) (.lit 0)) (.lit (-53)))), (.bin .le (.lit (-5000)) (.var 3)), (.bin .le (.var 3) (.lit 5000))], (.int .u64 (.ite (.un .bnot (.un .bnot (.var 0))) (.lit 9223372036854775808) (.lit 0)))),
  ([(.bin .le (.lit 2047) (.bin .add (.bin .add (.var 3) (.bin .add (.fn 0 (.bin .add (.bin .mul (.var 1) (.lit 18446744073709551616)) (.var 2)) (.lit 0) (.lit 0)) (.lit (-53)))) (.lit 1076))), (.bin .eq (.un (.wrap .u64) (.bin .add (.var 5) (.lit 1))) (.lit 9007199254740992)), (.bin .eq (.var 6) (.lit 1)), (.bin .eq (.var 6) (.fn 3 (.bin .add (.bin .mul (.var 1) (.lit 18446744073709551616)) (.var 2)) (.bin .add (.fn 0 (.bin .add (.bin .mul (.var 1) (.lit 18446744073709551616)) (.var 2)) (.lit 0) (.lit 0)) (.lit (-53))) (.lit 0))), (.bin .eq (.var 5) (.un (.wrap .u64) (.fn 2 (.bin .add (.bin .mul (.var 1) (.lit 18446744073709551616)) (.var 2)) (.bin .add (.fn 0 (.bin .add (.bin .mul (.var 1) (.lit 18446744073709551616)) (.var 2)) (.lit 0) (.lit 0)) (.lit (-53))) (.lit 0)))), (.bin .eq (.var 4) (.un (.wrap .u64) (.bin .ediv (.fn 2 (.bin .add (.bin .mul (.var 1) (.lit 18446744073709551616)) (.var 2)) (.bin .add (.fn 0 (.bin .add (.bin .mul (.var 1) (.lit 18446744073709551616)) (.var 2)) (.lit 0) (.lit 0)) (.lit (-53))) (.lit 0)) (.lit 18446744073709551616)))), (.un .bnot (.bin .eq (.bin (.bits .or .u64) (.var 1) (.var 2)) (.lit 0))), (.bin .le (.lit 0) (.bin .add (.fn 0 (.bin .add (.bin .mul (.var 1) (.lit 18446744073709551616)) (.var 2)) (.lit 0) (.lit 0)) (.lit (-53)))), (.bin .le (.bin .sub (.lit (-1074)) (.var 3)) (.bin .add (.fn 0 (.bin .add (.bin .mul (.var 1) (.lit 18446744073709551616)) (.var 2)) (.lit 0) (.lit 0)) (.lit (-53)))), (.bin .le (.lit (-5000)) (.var 3)), (.bin .le (.var 3) (.lit 5000))], (.int .u64 (.ite (.un .bnot (.un .bnot (.var 0))) (.lit 18442240474082181120) (.lit 9218868437227405312)))),
  ([(.bin .lt (.bin .add (.bin .add (.var 3) (.bin .add (.fn 0 (.bin .add (.bin .mul (.var 1) (.lit 18446744073709551616)) (.var 2)) (.lit 0) (.lit 0)) (.lit (-53)))) (.lit 1076)) (.lit 2047)), (.bin .eq (.un (.wrap .u64) (.bin .add (.var 5) (.lit 1))) (.lit 9007199254740992)), (.bin .eq (.var 6) (.lit 1)), (.bin .eq (.var 6) (.fn 3 (.bin .add (.bin .mul (.var 1) (.lit 18446744073709551616)) (.var 2)) (.bin .add (.fn 0 (.bin .add (.bin .mul (.var 1) (.lit 18446744073709551616)) (.var 2)) (.lit 0) (.lit 0)) (.lit (-53))) (.lit 0))), (.bin .eq (.var 5) (.un (.wrap .u64) (.fn 2 (.bin .add (.bin .mul (.var 1) (.lit 18446744073709551616)) (.var 2)) (.bin .add (.fn 0 (.bin .add (.bin .mul (.var 1) (.lit 18446744073709551616)) (.var 2)) (.lit 0) (.lit 0)) (.lit (-53))) (.lit 0)))), (.bin .eq (.var 4) (.un (.wrap .u64) (.bin .ediv (.fn 2 (.bin .add (.bin .mul (.var 1) (.lit 18446744073709551616)) (.var 2)) (.bin .add (.fn 0 (.bin .add (.bin .mul (.var 1) (.lit 18446744073709551616)) (.var 2)) (.lit 0) (.lit 0)) (.lit (-53))) (.lit 0)) (.lit 18446744073709551616)))), (.un .bnot (.bin .eq (.bin (.bits .or .u64) (.var 1) (.var 2)) (.lit 0))), (.bin .le (.lit 0) (.bin .add (.fn 0 (.bin .add (.bin .mul (.var 1) (.lit 18446744073709551616)) (.var 2)) (.lit 0) (.lit 0)) (.lit (-53)))), (.bin .le (.bin .sub (.lit (-1074)) (.var 3)) (.bin .add (.fn 0 (.bin .add (.bin .mul (.var 1) (.lit 18446744073709551616)) (.var 2)) (.lit 0) (.lit 0)) (.lit (-53)))), (.bin .le (.lit (-5000)) (.var 3)), (.bin .le (.var 3) (.lit 5000))], (.int .u64 (.bin (.bits .or .u64) (.bin (.bits .or .u64) (.ite (.un .bnot (.un .bnot (.var 0))) (.lit 9223372036854775808) (.lit 0)) (.un (.wrap .u64) (.bin .mul (.un (.wrap .u64) (.bin .add (.bin .add (.var 3) (.bin .add (.fn 0 (.bin .add (.bin .mul (.var 1) (.lit 18446744073709551616)) (.var 2)) (.lit 0) (.lit 0)) (.lit (-53)))) (.lit 1076))) (.lit 4503599627370496)))) (.bin .emod (.bin .ediv (.un (.wrap .u64) (.bin .add (.var 5) (.lit 1))) (.lit 2)) (.lit 4503599627370496))))),
  ([(.bin .lt (.un (.wrap .u64) (.bin .add (.var 5) (.lit 1))) (.lit 4503599627370496)), (.un .bnot (.bin .eq (.un (.wrap .u64) (.bin .add (.var 5) (.lit 1))) (.lit 9007199254740992))), (.bin .eq (.var 6) (.lit 1)), (.bin .eq (.var 6) (.fn 3 (.bin .add (.bin .mul (.var 1) (.lit 18446744073709551616)) (.var 2)) (.bin .add (.fn 0 (.bin .add (.bin .mul (.var 1) (.lit 18446744073709551616)) (.var 2)) (.lit 0) (.lit 0)) (.lit (-53))) (.lit 0))), (.bin .eq (.var 5) (.un (.wrap .u64) (.fn 2 (.bin .add (.bin .mul (.var 1) (.lit 18446744073709551616)) (.var 2)) (.bin .add (.fn 0 (.bin .add (.bin .mul (.var 1) (.lit 18446744073709551616)) (.var 2)) (.lit 0) (.lit 0)) (.lit (-53))) (.lit 0)))), (.bin .eq (.var 4) (.un (.wrap .u64) (.bin .ediv (.fn 2 (.bin .add (.bin .mul (.var 1) (.lit 18446744073709551616)) (.var 2)) (.bin .add (.fn 0 (.bin .add (.bin .mul (.var 1) (.lit 18446744073709551616)) (.var 2)) (.lit 0) (.lit 0)) (.lit (-53))) (.lit 0)) (.lit 18446744073709551616)))), (.un .bnot (.bin .eq (.bin (.bits .or .u64) (.var 1) (.var 2)) (.lit 0))), (.bin .le (.lit 0) (.bin .add (.fn 0 (.bin .add (.bin .mul (.var 1) (.lit 18446744073709551616)) (.var 2)) (.lit 0) (.lit 0)) (.lit (-53)))), (.bin .le (.bin .sub (.lit (-1074)) (.var 3)) (.bin .add (.fn 0 (.bin .add (.bin .mul (.var 1) (.lit 18446744073709551616)) (.var 2)) (.lit 0) (.lit 0)) (.lit (-53)))), (.bin .le (.lit (-5000)) (.var 3)), (.bin .le (.var 3) (.lit 5000))], (.int .u64 (.bin (.bits .or .u64) (.ite (.un .bnot (.un .bnot (.var 0))) (.lit 9223372036854775808) (.lit 0)) (.un (.wrap .u64) (.bin .add (.var 5) (.lit 1)))))),
  ([(.bin .le (.lit 2047) (.bin .add (.bin .add (.var 3) (.bin .add (.fn 0 (.bin .add (.bin .mul (.var 1) (.lit 18446744073709551616)) (.var 2)) (.lit 0) (.lit 0)) (.lit (-53)))) (.lit 1075))), (.bin .le (.lit 4503599627370496) (.un (.wrap .u64) (.bin .add (.var 5) (.lit 1)))), (.un .bnot (.bin .eq (.un (.wrap .u64) (.bin .add (.var 5) (.lit 1))) (.lit 9007199254740992))), (.bin .eq (.var 6) (.lit 1)), (.bin .eq (.var 6) (.fn 3 (.bin .add (.bin .mul (.var 1) (.lit 18446744073709551616)) (.var 2)) (.bin .add (.fn 0 (.bin .add (.bin .mul (.var 1) (.lit 18446744073709551616)) (.var 2)) (.lit 0) (.lit 0)) (.lit (-53))) (.lit 0))), (.bin .eq (.var 5) (.un (.wrap .u64) (.fn 2 (.bin .add (.bin .mul (.var 1) (.lit 18446744073709551616)) (.var 2)) (.bin .add (.fn 0 (.bin .add (.bin .mul (.var 1) (.lit 18446744073709551616)) (.var 2)) (.lit 0) (.lit 0)) (.lit (-53))) (.lit 0)))), (.bin .eq (.var 4) (.un (.wrap .u64) (.bin .ediv (.fn 2 (.bin .add (.bin .mul (.var 1) (.lit 18446744073709551616)) (.var 2)) (.bin .add (.fn 0 (.bin .add (.bin .mul (.var 1) (.lit 18446744073709551616)) (.var 2)) (.lit 0) (.lit 0)) (.lit (-53))) (.lit 0)) (.lit 18446744073709551616)))), (.un .bnot (.bin .eq (.bin (.bits .or .u64) (.var 1) (.var 2)) (.lit 0))), (.bin .le (.lit 0) (.bin .add (.fn 0 (.bin .add (.bin .mul (.var 1) (.lit 18446744073709551616)) (.var 2)) (.lit 0) (.lit 0)) (.lit (-53)))), (.bin .le (.bin .sub (.lit (-1074)) (.var 3)) (.bin .add (.fn 0 (.bin .add (.bin .mul (.var 1) (.lit 18446744073709551616)) (.var 2)) (.lit 0) (.lit 0)) (.lit (-53)))), (.bin .le (.lit (-5000)) (.var 3)), (.bin .le (.var 3) (.lit 5000))], (.int .u64 (.ite (.un .bnot (.un .bnot (.var 0))) (.lit 18442240474082181120) (.lit 9218868437227405312)))),
  ([(.bin .lt (.bin .add (.bin .add (.var 3) (.bin .add (.fn 0 (.bin .add (.bin .mul (.var 1) (.lit 18446744073709551616)) (.var 2)) (.lit 0) (.lit 0)) (.lit (-53)))) (.lit 1075)) (.lit 2047)), (.bin .le (.lit 4503599627370496) (.un (.wrap .u64) (.bin .add (.var 5) (.lit 1)))), (.un .bnot (.bin .eq (.un (.wrap .u64) (.bin .add (.var 5) (.lit 1))) (.lit 9007199254740992))), (.bin .eq (.var 6) (.lit 1)), (.bin .eq (.var 6) (.fn 3 (.bin .add (.bin .mul (.var 1) (.lit 18446744073709551616)) (.var 2)) (.bin .add (.fn 0 (.bin .add (.bin .mul (.var 1) (.lit 18446744073709551616)) (.var 2)) (.lit 0) (.lit 0)) (.lit (-53))) (.lit 0))), (.bin .eq (.var 5) (.un (.wrap .u64) (.fn 2 (.bin .add (.bin .mul (.var 1) (.lit 18446744073709551616)) (.var 2)) (.bin .add (.fn 0 (.bin .add (.bin .mul (.var 1) (.lit 18446744073709551616)) (.var 2)) (.lit 0) (.lit 0)) (.lit (-53))) (.lit 0)))), (.bin .eq (.var 4) (.un (.wrap .u64) (.bin .ediv (.fn 2 (.bin .add (.bin .mul (.var 1) (.lit 18446744073709551616)) (.var 2)) (.bin .add (.fn 0 (.bin .add (.bin .mul (.var 1) (.lit 18446744073709551616)) (.var 2)) (.lit 0) (.lit 0)) (.lit (-53))) (.lit 0)) (.lit 18446744073709551616)))), (.un .bnot (.bin .eq (.bin (.bits .or .u64) (.var 1) (.var 2)) (.lit 0))), (.bin .le (.lit 0) (.bin .add (.fn 0 (.bin .add (.bin .mul (.var 1) (.lit 18446744073709551616)) (.var 2)) (.lit 0) (.lit 0)) (.lit (-53)))), (.bin .le (.bin .sub (.lit (-1074)) (.var 3)) (.bin .add (.fn 0 (.bin .add (.bin .mul (.var 1) (.lit 18446744073709551616)) (.var 2)) (.lit 0) (.lit 0)) (.lit (-53)))), (.bin .le (.lit (-5000)) (.var 3)), (.bin .le (.var 3) (.lit 5000))], (.int .u64 (.bin (.bits .or .u64) (.bin (.bits .or .u64) (.ite (.un .bnot (.un .bnot (.var 0))) (.lit 9223372036854775808) (.lit 0)) (.un (.wrap .u64) (.bin .mul (.un (.wrap .u64) (.bin .add (.bin .add (.var 3) (.bin .add (.fn 0 (.bin .add (.bin .mul (.var 1) (.lit 18446744073709551616)) (.var 2)) (.lit 0) (.lit 0)) (.lit (-53)))) (.lit 1075))) (.lit 4503599627370496)))) (.bin .emod (.un (.wrap .u64) (.bin .add (.var 5) (.lit 1))) (.lit 4503599627370496))))),
  ([(.bin .le (.lit 2047) (.bin .add (.bin .add (.var 3) (.bin .add (.fn 0 (.bin .add (.bin .mul (.var 1) (.lit 18446744073709551616)) (.var 2)) (.lit 0) (.lit 0)) (.lit (-53)))) (.lit 1076))), (.bin .eq (.un (.wrap .u64) (.bin .add (.var 5) (.lit 1))) (.lit 9007199254740992)), (.bin .eq (.bin .emod (.var 5) (.lit 2)) (.lit 1)), (.bin .eq (.var 6) (.lit 0)), (.un .bnot (.bin .eq (.var 6) (.lit 1))), (.bin .eq (.var 6) (.fn 3 (.bin .add (.bin .mul (.var 1) (.lit 18446744073709551616)) (.var 2)) (.bin .add (.fn 0 (.bin .add (.bin .mul (.var 1) (.lit 18446744073709551616)) (.var 2)) (.lit 0) (.lit 0)) (.lit (-53))) (.lit 0))), (.bin .eq (.var 5) (.un (.wrap .u64) (.fn 2 (.bin .add (.bin .mul (.var 1) (.lit 18446744073709551616)) (.var 2)) (.bin .add (.fn 0 (.bin .add (.bin .mul (.var 1) (.lit 18446744073709551616)) (.var 2)) (.lit 0) (.lit 0)) (.lit (-53))) (.lit 0)))), (.bin .eq (.var 4) (.un (.wrap .u64) (.bin .ediv (.fn 2 (.bin .add (.bin .mul (.var 1) (.lit 18446744073709551616)) (.var 2)) (.bin .add (.fn 0 (.bin .add (.bin .mul (.var 1) (.lit 18446744073709551616)) (.var 2)) (.lit 0) (.lit 0)) (.lit (-53))) (.lit 0)) (.lit 18446744073709551616)))), (.un .bnot (.bin .eq (.bin (.bits .or .u64) (.var 1) (.var 2)) (.lit 0))), (.bin .le (.lit 0) (.bin .add (.fn 0 (.bin .add (.bin .mul (.var 1) (.lit 18446744073709551616)) (.var 2)) (.lit 0) (.lit 0)) (.lit (-53)))), (.bin .le (.bin .sub (.lit (-1074)) (.var 3)) (.bin .add (.fn 0 (.bin .add (.bin .mul (.var 1) (.lit 18446744073709551616)) (.var 2)) (.lit 0) (.lit 0)) (.lit (-53)))), (.bin .le (.lit (-5000)) (.var 3)), (.bin .le (.var 3) (.lit 5000))], (.int .u64 (.ite (.un .bnot (.un .bnot (.var 0))) (.lit 18442240474082181120) (.lit 9218868437227405312)))),
  ([(.bin .lt (.bin .add (.bin .add (.var 3) (.bin .add (.fn 0 (.bin .add (.bin .mul (.var 1) (.lit 18446744073709551616)) (.var 2)) (.lit 0) (.lit 0)) (.lit (-53)))) (.lit 1076)) (.lit 2047)), (.bin .eq (.un (.wrap .u64) (.bin .add (.var 5) (.lit 1))) (.lit 9007199254740992)), (.bin .eq (.bin .emod (.var 5) (.lit 2)) (.lit 1)), (.bin .eq (.var 6) (.lit 0)), (.un .bnot (.bin .eq (.var 6) (.lit 1))), (.bin .eq (.var 6) (.fn 3 (.bin .add (.bin .mul (.var 1) (.lit 18446744073709551616)) (.var 2)) (.bin .add (.fn 0 (.bin .add (.bin .mul (.var 1) (.lit 18446744073709551616)) (.var 2)) (.lit 0) (.lit 0)) (.lit (-53))) (.lit 0))), (.bin .eq (.var 5) (.un (.wrap .u64) (.fn 2 (.bin .add (.bin .mul (.var 1) (.lit 18446744073709551616)) (.var 2)) (.bin .add (.fn 0 (.bin .add (.bin .mul (.var 1) (.lit 18446744073709551616)) (.var 2)) (.lit 0) (.lit 0)) (.lit (-53))) (.lit 0)))), (.bin .eq (.var 4) (.un (.wrap .u64) (.bin .ediv (.fn 2 (.bin .add (.bin .mul (.var 1) (.lit 18446744073709551616)) (.var 2)) (.bin .add (.fn 0 (.bin .add (.bin .mul (.var 1) (.lit 18446744073709551616)) (.var 2)) (.lit 0) (.lit 0)) (.lit (-53))) (.lit 0)) (.lit 18446744073709551616)))), (.un .bnot (.bin .eq (.bin (.bits .or .u64) (.var 1) (.var 2)) (.lit 0))), (.bin .le (.lit 0) (.bin .add (.fn 0 (.bin .add (.bin .mul (.var 1) (.lit 18446744073709551616)) (.var 2)) (.lit 0) (.lit 0)) (.lit (-53)))), (.bin .le (.bin .sub (.lit (-1074)) (.var 3)) (.bin .add (.fn 0 (.bin .add (.bin .mul (.var 1) (.lit 18446744073709551616)) (.var 2)) (.lit 0) (.lit 0)) (.lit (-53)))), (.bin .le (.lit (-5000)) (.var 3)), (.bin .le (.var 3) (.lit 5000))], (.int .u64 (.bin (.bits .or .u64) (.bin (.bits .or .u64) (.ite (.un .bnot (.un .bnot (.var 0))) (.lit 9223372036854775808) (.lit 0)) (.un (.wrap .u64) (.bin .mul (.un (.wrap .u64) (.bin .add (.bin .add (.var 3) (.bin .add (.fn 0 (.bin .add (.bin .mul (.var 1) (.lit 18446744073709551616)) (.var 2)) (.lit 0) (.lit 0)) (.lit (-53)))) (.lit 1076))) (.lit 4503599627370496)))) (.bin .emod (.bin .ediv (.un (.wrap .u64) (.bin .add (.var 5) (.lit 1))) (.lit 2)) (.lit 4503599627370496))))),
  ([(.bin .lt (.un (.wrap .u64) (.bin .add (.var 5) (.lit 1))) (.lit 4503599627370496)), (.un .bnot (.bin .eq (.un (.wrap .u64) (.bin .add (.var 5) (.lit 1))) (.lit 9007199254740992))), (.bin .eq (.bin .emod (.var 5) (.lit 2)) (.lit 1)), (.bin .eq (.var 6) (.lit 0)), (.un .bnot (.bin .eq (.var 6) (.lit 1))), (.bin .eq (.var 6) (.fn 3 (.bin .add (.bin .mul (.var 1) (.lit 18446744073709551616)) (.var 2)) (.bin .add (.fn 0 (.bin .add (.bin .mul (.var 1) (.lit 18446744073709551616)) (.var 2)) (.lit 0) (.lit 0)) (.lit (-53))) (.lit 0))), (.bin .eq (.var 5) (.un (.wrap .u64) (.fn 2 (.bin .add (.bin .mul (.var 1) (.lit 18446744073709551616)) (.var 2)) (.bin .add (.fn 0 (.bin .add (.bin .mul (.var 1) (.lit 18446744073709551616)) (.var 2)) (.lit 0) (.lit 0)) (.lit (-53))) (.lit 0)))), (.bin .eq (.var 4) (.un (.wrap .u64) (.bin .ediv (.fn 2 (.bin .add (.bin .mul (.var 1) (.lit 18446744073709551616)) (.var 2)) (.bin .add (.fn 0 (.bin .add (.bin .mul (.var 1) (.lit 18446744073709551616)) (.var 2)) (.lit 0) (.lit 0)) (.lit (-53))) (.lit 0)) (.lit 18446744073709551616)))), (.un .bnot (.bin .eq (.bin (.bits .or .u64) (.var 1) (.var 2)) (.lit 0))), (.bin .le (.lit 0) (.bin .add (.fn 0 (.bin .add (.bin .mul (.var 1) (.lit 18446744073709551616)) (.var 2)) (.lit 0) (.lit 0)) (.lit (-53)))), (.bin .le (.bin .sub (.lit (-1074)) (.var 3)) (.bin .add (.fn 0 (.bin .add (.bin .mul (.var 1) (.lit 18446744073709551616)) (.var 2)) (.lit 0) (.lit 0)) (.lit (-53)))), (.bin .le (.lit (-5000)) (.var 3)), (.bin .le (.var 3) (.lit 5000))], (.int .u64 (.bin (.bits .or .u64) (.ite (.un .bnot (.un .bnot (.var 0))) (.lit 9223372036854775808) (.lit 0)) (.un (.wrap .u64) (.bin .add (.var 5) (.lit 1)))))),
  ([(.bin .le (.lit 2047) (.bin .add (.bin .add (.var 3) (.bin .add (.fn 0 (.bin .add (.bin .mul (.var 1) (.lit 18446744073709551616)) (.var 2)) (.lit 0) (.lit 0)) (.lit (-53)))) (.lit 1075))), (.bin .le (.lit 4503599627370496) (.un (.wrap .u64) (.bin .add (.var 5) (.lit 1)))), (.un .bnot (.bin .eq (.un (.wrap .u64) (.bin .add (.var 5) (.lit 1))) (.lit 9007199254740992))), (.bin .eq (.bin .emod (.var 5) (.lit 2)) (.lit 1)), (.bin .eq (.var 6) (.lit 0)), (.un .bnot (.bin .eq (.var 6) (.lit 1))), (.bin .eq (.var 6) (.fn 3 (.bin .add (.bin .mul (.var 1) (.lit 18446744073709551616)) (.var 2)) (.bin .add (.fn 0 (.bin .add (.bin .mul (.var 1) (.lit 18446744073709551616)) (.var 2)) (.lit 0) (.lit 0)) (.lit (-53))) (.lit 0))), (.bin .eq (.var 5) (.un (.wrap .u64) (.fn 2 (.bin .add (.bin .mul (.var 1) (.lit 18446744073709551616)) (.var 2)) (.bin .add (.fn 0 (.bin .add (.bin .mul (.var 1) (.lit 18446744073709551616)) (.var 2)) (.lit 0) (.lit 0)) (.lit (-53))) (.lit 0)))), (.bin .eq (.var 4) (.un (.wrap .u64) (.bin .ediv (.fn 2 (.bin .add (.bin .mul (.var 1) (.lit 18446744073709551616)) (.var 2)) (.bin .add (.fn 0 (.bin .add (.bin .mul (.var 1) (.lit 18446744073709551616)) (.var 2)) (.lit 0) (.lit 0)) (.lit (-53))) (.lit 0)) (.lit 18446744073709551616)))), (.un .bnot (.bin .eq (.bin (.bits .or .u64) (.var 1) (.var 2)) (.lit 0))), (.bin .le (.lit 0) (.bin .add (.fn 0 (.bin .add (.bin .mul (.var 1) (.lit 18446744073709551616)) (.var 2)) (.lit 0) (.lit 0)) (.lit (-53)))), (.bin .le (.bin .sub (.lit (-1074)) (.var 3)) (.bin .add (.fn 0 (.bin .add (.bin .mul (.var 1) (.lit 18446744073709551616)) (.var 2)) (.lit 0) (.lit 0)) (.lit (-53)))), (.bin .le (.lit (-5000)) (.var 3)), (.bin .le (.var 3) (.lit 5000))], (.int .u64 (.ite (.un .bnot (.un .bnot (.var 0))) (.lit 18442240474082181120) (.lit 9218868437227405312)))),
  ([(.bin .lt (.bin .add (.bin .add (.var 3) (.bin .add (.fn 0 (.bin .add (.bin .mul (.var 1) (.lit 18446744073709551616)) (.var 2)) (.lit 0) (.lit 0)) (.lit (-53)))) (.lit 1075)) (.lit 2047)), (.bin .le (.lit 4503599627370496) (.un (.wrap .u64) (.bin .add (.var 5) (.lit 1)))), (.un .bnot (.bin .eq (.un (.wrap .u64) (.bin .add (.var 5) (.lit 1))) (.lit 9007199254740992))), (.bin .eq (.bin .emod (.var 5) (.lit 2)) (.lit 1)), (.bin .eq (.var 6) (.lit 0)), (.un .bnot (.bin .eq (.var 6) (.lit 1))), (.bin .eq (.var 6) (.fn 3 (.bin .add (.bin .mul (.var 1) (.lit 18446744073709551616)) (.var 2)) (.bin .add (.fn 0 (.bin .add (.bin .mul (.var 1) (.lit 18446744073709551616)) (.var 2)) (.lit 0) (.lit 0)) (.lit (-53))) (.lit 0))), (.bin .eq (.var 5) (.un (.wrap .u64) (.fn 2 (.bin .add (.bin .mul (.var 1) (.lit 18446744073709551616)) (.var 2)) (.bin .add (.fn 0 (.bin .add (.bin .mul (.var 1) (.lit 18446744073709551616)) (.var 2)) (.lit 0) (.lit 0)) (.lit (-53))) (.lit 0)))), (.bin .eq (.var 4) (.un (.wrap .u64) (.bin .ediv (.fn 2 (.bin .add (.bin .mul (.var 1) (.lit 18446744073709551616)) (.var 2)) (.bin .add (.fn 0 (.bin .add (.bin .mul (.var 1) (.lit 18446744073709551616)) (.var 2)) (.lit 0) (.lit 0)) (.lit (-53))) (.lit 0)) (.lit 18446744073709551616)))), (.un .bnot (.bin .eq (.bin (.bits .or .u64) (.var 1) (.var 2)) (.lit 0))), (.bin .le (.lit 0) (.bin .add (.fn 0 (.bin .add (.bin .mul (.var 1) (.lit 18446744073709551616)) (.var 2)) (.lit 0) (.lit 0)) (.lit (-53)))), (.bin .le (.bin .sub (.lit (-1074)) (.var 3)) (.bin .add (.fn 0 (.bin .add (.bin .mul (.var 1) (.lit 18446744073709551616)) (.var 2)) (.lit 0) (.lit 0)) (.lit (-53)))), (.bin .le (.lit (-5000)) (.var 3)), (.bin .le (.var 3) (.lit 5000))], (.int .u64 (.bin (.bits .or .u64) (.bin (.bits .or .u64) (.ite (.un .bnot (.un .bnot (.var 0))) (.lit 9223372036854775808) (.lit 0)) (.un (.wrap .u64) (.bin .mul (.un (.wrap .u64) (.bin .add (.bin .add (.var 3) (.bin .add (.fn 0 (.bin .add (.bin .mul (.var 1) (.lit 18446744073709551616)) (.var 2)) (.lit 0) (.lit 0)) (.lit (-53)))) (.lit 1075))) (.lit 4503599627370496)))) (.bin .emod (.un (.wrap .u64) (.bin .add (.var 5) (.lit 1))) (.lit 4503599627370496))))),
  ([(.bin .le (.lit 2047) (.bin .add (.bin .add (.var 3) (.bin .add (.fn 0 (.bin .add (.bin .mul (.var 1) (.lit 18446744073709551616)) (.var 2)) (.lit 0) (.lit 0)) (.lit (-53)))) (.lit 1076))), (.bin .eq (.var 5) (.lit 9007199254740992)), (.un .bnot (.bin .eq (.bin .emod (.var 5) (.lit 2)) (.lit 1))), (.bin .eq (.var 6) (.lit 0)), (.un .bnot (.bin .eq (.var 6) (.lit 1))), (.bin .eq (.var 6) (.fn 3 (.bin .add (.bin .mul (.var 1) (.lit 18446744073709551616)) (.var 2)) (.bin .add (.fn 0 (.bin .add (.bin .mul (.var 1) (.lit 18446744073709551616)) (.var 2)) (.lit 0) (.lit 0)) (.lit (-53))) (.lit 0))), (.bin .eq (.var 5) (.un (.wrap .u64) (.fn 2 (.bin .add (.bin .mul (.var 1) (.lit 18446744073709551616)) (.var 2)) (.bin .add (.fn 0 (.bin .add (.bin .mul (.var 1) (.lit 18446744073709551616)) (.var 2)) (.lit 0) (.lit 0)) (.lit (-53))) (.lit 0)))), (.bin .eq (.var 4) (.un (.wrap .u64) (.bin .ediv (.fn 2 (.bin .add (.bin .mul (.var 1) (.lit 18446744073709551616)) (.var 2)) (.bin .add (.fn 0 (.bin .add (.bin .mul (.var 1) (.lit 18446744073709551616)) (.var 2)) (.lit 0) (.lit 0)) (.lit (-53))) (.lit 0)) (.lit 18446744073709551616)))), (.un .bnot (.bin .eq (.bin (.bits .or .u64) (.var 1) (.var 2)) (.lit 0))), (.bin .le (.lit 0) (.bin .add (.fn 0 (.bin .add (.bin .mul (.var 1) (.lit 18446744073709551616)) (.var 2)) (.lit 0) (.lit 0)) (.lit (-53)))), (.bin .le (.bin .sub (.lit (-1074)) (.var 3)) (.bin .add (.fn 0 (.bin .add (.bin .mul (.var 1) (.lit 18446744073709551616)) (.var 2)) (.lit 0) (.lit 0)) (.lit (-53)))), (.bin .le (.lit (-5000)) (.var 3)), (.bin .le (.var 3) (.lit 5000))], (.int .u64 (.ite (.un .bnot (.un .bnot (.var 0))) (.lit 18442240474082181120) (.lit 9218868437227405312)))),
  ([(.bin .lt (.bin .add (.bin .add (.var 3) (.bin .add (.fn 0 (.bin .add (.bin .mul (.var 1) (.lit 18446744073709551616)) (.var 2)) (.lit 0) (.lit 0)) (.lit (-53)))) (.lit 1076)) (.lit 2047)), (.bin .eq (.var 5) (.lit 9007199254740992)), (.un .bnot (.bin .eq (.bin .emod (.var 5) (.lit 2)) (.lit 1))), (.bin .eq (.var 6) (.lit 0)), (.un .bnot (.bin .eq (.var 6) (.lit 1))), (.bin .eq (.var 6) (.fn 3 (.bin .add (.bin .mul (.var 1) (.lit 18446744073709551616)) (.var 2)) (.bin .add (.fn 0 (.bin .add (.bin .mul (.var 1) (.lit 18446744073709551616)) (.var 2)) (.lit 0) (.lit 0)) (.lit (-53))) (.lit 0))), (.bin .eq (.var 5) (.un (.wrap .u64) (.fn 2 (.bin .add (.bin .mul (.var 1) (.lit 18446744073709551616)) (.var 2)) (.bin .add (.fn 0 (.bin .add (.bin .mul (.var 1) (.lit 18446744073709551616)) (.var 2)) (.lit 0) (.lit 0)) (.lit (-53))) (.lit 0)))), (.bin .eq (.var 4) (.un (.wrap .u64) (.bin .ediv (.fn 2 (.bin .add (.bin .mul (.var 1) (.lit 18446744073709551616)) (.var 2)) (.bin .add (.fn 0 (.bin .add (.bin .mul (.var 1) (.lit 18446744073709551616)) (.var 2)) (.lit 0) (.lit 0)) (.lit (-53))) (.lit 0)) (.lit 18446744073709551616)))), (.un .bnot (.bin .eq (.bin (.bits .or .u64) (.var 1) (.var 2)) (.lit 0))), (.bin .le (.lit 0) (.bin .add (.fn 0 (.bin .add (.bin .mul (.var 1) (.lit 18446744073709551616)) (.var 2)) (.lit 0) (.lit 0)) (.lit (-53)))), (.bin .le (.bin .sub (.lit (-1074)) (.var 3)) (.bin .add (.fn 0 (.bin .add (.bin .mul (.var 1) (.lit 18446744073709551616)) (.var 2)) (.lit 0) (.lit 0)) (.lit (-53)))), (.bin .le (.lit (-5000)) (.var 3)), (.bin .le (.var 3) (.lit 5000))], (.int .u64 (.bin (.bits .or .u64) (.bin (.bits .or .u64) (.ite (.un .bnot (.un .bnot (.var 0))) (.lit 9223372036854775808) (.lit 0)) (.un (.wrap .u64) (.bin .mul (.un (.wrap .u64) (.bin .add (.bin .add (.var 3) (.bin .add (.fn 0 (.bin .add (.bin .mul (.var 1) (.lit 18446744073709551616)) (.var 2)) (.lit 0) (.lit 0)) (.lit (-53)))) (.lit 1076))) (.lit 4503599627370496)))) (.bin .emod (.bin .ediv (.var 5) (.lit 2)) (.lit 4503599627370496))))),
  ([(.bin .lt (.var 5) (.lit 4503599627370496)), (.un .bnot (.bin .eq (.var 5) (.lit 9007199254740992))), (.un .bnot (.bin .eq (.bin .emod (.var 5) (.lit 2)) (.lit 1))), (.bin .eq (.var 6) (.lit 0)), (.un .bnot (.bin .eq (.var 6) (.lit 1))), (.bin .eq (.var 6) (.fn 3 (.bin .add (.bin .mul (.var 1) (.lit 18446744073709551616)) (.var 2)) (.bin .add (.fn 0 (.bin .add (.bin .mul (.var 1) (.lit 18446744073709551616)) (.var 2)) (.lit 0) (.lit 0)) (.lit (-53))) (.lit 0))), (.bin .eq (.var 5) (.un (.wrap .u64) (.fn 2 (.bin .add (.bin .mul (.var 1) (.lit 18446744073709551616)) (.var 2)) (.bin .add (.fn 0 (.bin .add (.bin .mul (.var 1) (.lit 18446744073709551616)) (.var 2)) (.lit 0) (.lit 0)) (.lit (-53))) (.lit 0)))), (.bin .eq (.var 4) (.un (.wrap .u64) (.bin .ediv (.fn 2 (.bin .add (.bin .mul (.var 1) (.lit 18446744073709551616)) (.var 2)) (.bin .add (.fn 0 (.bin .add (.bin .mul (.var 1) (.lit 18446744073709551616)) (.var 2)) (.lit 0) (.lit 0)) (.lit (-53))) (.lit 0)) (.lit 18446744073709551616)))), (.un .bnot (.bin .eq (.bin (.bits .or .u64) (.var 1) (.var 2)) (.lit 0))), (.bin .le (.lit 0) (.bin .add (.fn 0 (.bin .add (.bin .mul (.var 1) (.lit 18446744073709551616)) (.var 2)) (.lit 0) (.lit 0)) (.lit (-53)))), (.bin .le (.bin .sub (.lit (-1074)) (.var 3)) (.bin .add (.fn 0 (.bin .add (.bin .mul (.var 1) (.lit 18446744073709551616)) (.var 2)) (.lit 0) (.lit 0)) (.lit (-53)))), (.bin .le (.lit (-5000)) (.var 3)), (.bin .le (.var 3) (.lit 5000))], (.int .u64 (.bin (.bits .or .u64) (.ite (.un .bnot (.un .bnot (.var 0))) (.lit 9223372036854775808) (.lit 0)) (.var 5)))),
  ([(.bin .le (.lit 2047) (.bin .add (.bin .add (.var 3) (.bin .add (.fn 0 (.bin .add (.bin .mul (.var 1) (.lit 18446744073709551616)) (.var 2)) (.lit 0) (.lit 0)) (.lit (-53)))) (.lit 1075))), (.bin .le (.lit 4503599627370496) (.var 5)), (.un .bnot (.bin .eq (.var 5) (.lit 9007199254740992))), (.un .bnot (.bin .eq (.bin .emod (.var 5) (.lit 2)) (.lit 1))), (.bin .eq (.var 6) (.lit 0)), (.un .bnot (.bin .eq (.var 6) (.lit 1))), (.bin .eq (.var 6) (.fn 3 (.bin .add (.bin .mul (.var 1) (.lit 18446744073709551616)) (.var 2)) (.bin .add (.fn 0 (.bin .add (.bin .mul (.var 1) (.lit 18446744073709551616)) (.var 2)) (.lit 0) (.lit 0)) (.lit (-53))) (.lit 0))), (.bin .eq (.var 5) (.un (.wrap .u64) (.fn 2 (.bin .add (.bin .mul (.var 1) (.lit 18446744073709551616)) (.var 2)) (.bin .add (.fn 0 (.bin .add (.bin .mul (.var 1) (.lit 18446744073709551616)) (.var 2)) (.lit 0) (.lit 0)) (.lit (-53))) (.lit 0)))), (.bin .eq (.var 4) (.un (.wrap .u64) (.bin .ediv (.fn 2 (.bin .add (.bin .mul (.var 1) (.lit 18446744073709551616)) (.var 2)) (.bin .add (.fn 0 (.bin .add (.bin .mul (.var 1) (.lit 18446744073709551616)) (.var 2)) (.lit 0) (.lit 0)) (.lit (-53))) (.lit 0)) (.lit 18446744073709551616)))), (.un .bnot (.bin .eq (.bin (.bits .or .u64) (.var 1) (.var 2)) (.lit 0))), (.bin .le (.lit 0) (.bin .add (.fn 0 (.bin .add (.bin .mul (.var 1) (.lit 18446744073709551616)) (.var 2)) (.lit 0) (.lit 0)) (.lit (-53)))), (.bin .le (.bin .sub (.lit (-1074)) (.var 3)) (.bin .add (.fn 0 (.bin .add (.bin .mul (.var 1) (.lit 18446744073709551616)) (.var 2)) (.lit 0) (.lit 0)) (.lit (-53)))), (.bin .le (.lit (-5000)) (.var 3)), (.bin .le (.var 3) (.lit 5000))], (.int .u64 (.ite (.un .bnot (.un .bnot (.var 0))) (.lit 18442240474082181120) (.lit 9218868437227405312)))),
  ([(.bin .lt (.bin .add (.bin .add (.var 3) (.bin .add (.fn 0 (.bin .add (.bin .mul (.var 1) (.lit 18446744073709551616)) (.var 2)) (.lit 0) (.lit 0)) (.lit (-53)))) (.lit 1075)) (.lit 2047)), (.bin .le (.lit 4503599627370496) (.var 5)), (.un .bnot (.bin .eq (.var 5) (.lit 9007199254740992))), (.un .bnot (.bin .eq (.bin .emod (.var 5) (.lit 2)) (.lit 1))), (.bin .eq (.var 6) (.lit 0)), (.un .bnot (.bin .eq (.var 6) (.lit 1))), (.bin .eq (.var 6) (.fn 3 (.bin .add (.bin .mul (.var 1) (.lit 18446744073709551616)) (.var 2)) (.bin .add (.fn 0 (.bin .add (.bin .mul (.var 1) (.lit 18446744073709551616)) (.var 2)) (.lit 0) (.lit 0)) (.lit (-53))) (.lit 0))), (.bin .eq (.var 5) (.un (.wrap .u64) (.fn 2 (.bin .add (.bin .mul (.var 1) (.lit 18446744073709551616)) (.var 2)) (.bin .add (.fn 0 (.bin .add (.bin .mul (.var 1) (.lit 18446744073709551616)) (.var 2)) (.lit 0) (.lit 0)) (.lit (-53))) (.lit 0)))), (.bin .eq (.var 4) (.un (.wrap .u64) (.bin .ediv (.fn 2 (.bin .add (.bin .mul (.var 1) (.lit 18446744073709551616)) (.var 2)) (.bin .add (.fn 0 (.bin .add (.bin .mul (.var 1) (.lit 18446744073709551616)) (.var 2)) (.lit 0) (.lit 0)) (.lit (-53))) (.lit 0)) (.lit 18446744073709551616)))), (.un .bnot (.bin .eq (.bin (.bits .or .u64) (.var 1) (.var 2)) (.lit 0))), (.bin .le (.lit 0) (.bin .add (.fn 0 (.bin .add (.bin .mul (.var 1) (.lit 18446744073709551616)) (.var 2)) (.lit 0) (.lit 0)) (.lit (-53)))), (.bin .le (.bin .sub (.lit (-1074)) (.var 3)) (.bin .add (.fn 0 (.bin .add (.bin .mul (.var 1) (.lit 18446744073709551616)) (.var 2)) (.lit 0) (.lit 0)) (.lit (-53)))), (.bin .le (.lit (-5000)) (.var 3)), (.bin .le (.var 3) (.lit 5000))], (.int .u64 (.bin (.bits .or .u64) (.bin (.bits .or .u64) (.ite (.un .bnot (.un .bnot (.var 0))) (.lit 9223372036854775808) (.lit 0)) (.un (.wrap .u64) (.bin .mul (.un (.wrap .u64) (.bin .add (.bin .add (.var 3) (.bin .add (.fn 0 (.bin .add (.bin .mul (.var 1) (.lit 18446744073709551616)) (.var 2)) (.lit 0) (.lit 0)) (.lit (-53)))) (.lit 1075))) (.lit 4503599627370496)))) (.bin .emod (.var 5) (.lit 4503599627370496))))),
  ([(.bin .le (.lit 2047) (.bin .add (.bin .add (.var 3) (.bin .add (.fn 0 (.bin .add (.bin .mul (.var 1) (.lit 18446744073709551616)) (.var 2)) (.lit 0) (.lit 0)) (.lit (-53)))) (.lit 1076))), (.bin .eq (.var 5) (.lit 9007199254740992)), (.un .bnot (.bin .eq (.var 6) (.lit 0))), (.un .bnot (.bin .eq (.var 6) (.lit 1))), (.bin .eq (.var 6) (.fn 3 (.bin .add (.bin .mul (.var 1) (.lit 18446744073709551616)) (.var 2)) (.bin .add (.fn 0 (.bin .add (.bin .mul (.var 1) (.lit 18446744073709551616)) (.var 2)) (.lit 0) (.lit 0)) (.lit (-53))) (.lit 0))), (.bin .eq (.var 5) (.un (.wrap .u64) (.fn 2 (.bin .add (.bin .mul (.var 1) (.lit 18446744073709551616)) (.var 2)) (.bin .add (.fn 0 (.bin .add (.bin .mul (.var 1) (.lit 18446744073709551616)) (.var 2)) (.lit 0) (.lit 0)) (.lit (-53))) (.lit 0)))), (.bin .eq (.var 4) (.un (.wrap .u64) (.bin .ediv (.fn 2 (.bin .add (.bin .mul (.var 1) (.lit 18446744073709551616)) (.var 2)) (.bin .add (.fn 0 (.bin .add (.bin .mul (.var 1) (.lit 18446744073709551616)) (.var 2)) (.lit 0) (.lit 0)) (.lit (-53))) (.lit 0)) (.lit 18446744073709551616)))), (.un .bnot (.bin .eq (.bin (.bits .or .u64) (.var 1) (.var 2)) (.lit 0))), (.bin .le (.lit 0) (.bin .add (.fn 0 (.bin .add (.bin .mul (.var 1) (.lit 18446744073709551616)) (.var 2)) (.lit 0) (.lit 0)) (.lit (-53)))), (.bin .le (.bin .sub (.lit (-1074)) (.var 3)) (.bin .add (.fn 0 (.bin .add (.bin .mul (.var 1) (.lit 18446744073709551616)) (.var 2)) (.lit 0) (.lit 0)) (.lit (-53)))), (.bin .le (.lit (-5000)) (.var 3)), (.bin .le (.var 3) (.lit 5000))], (.int .u64 (.ite (.un .bnot (.un .bnot (.var 0))) (.lit 18442240474082181120) (.lit 9218868437227405312)))),
  ([(.bin .lt (.bin .add (.bin .add (.var 3) (.bin .add (.fn 0 (.bin .add (.bin .mul (.var 1) (.lit 18446744073709551616)) (.var 2)) (.lit 0) (.lit 0)) (.lit (-53)))) (.lit 1076)) (.lit 2047)), (.bin .eq (.var 5) (.lit 9007199254740992)), (.un .bnot (.bin .eq (.var 6) (.lit 0))), (.un .bnot (.bin .eq (.var 6) (.lit 1))), (.bin .eq (.var 6) (.fn 3 (.bin .add (.bin .mul (.var 1) (.lit 18446744073709551616)) (.var 2)) (.bin .add (.fn 0 (.bin .add (.bin .mul (.var 1) (.lit 18446744073709551616)) (.var 2)) (.lit 0) (.lit 0)) (.lit (-53))) (.lit 0))), (.bin .eq (.var 5) (.un (.wrap .u64) (.fn 2 (.bin .add (.bin .mul (.var 1) (.lit 18446744073709551616)) (.var 2)) (.bin .add (.fn 0 (.bin .add (.bin .mul (.var 1) (.lit 18446744073709551616)) (.var 2)) (.lit 0) (.lit 0)) (.lit (-53))) (.lit 0)))), (.bin .eq (.var 4) (.un (.wrap .u64) (.bin .ediv (.fn 2 (.bin .add (.bin .mul (.var 1) (.lit 18446744073709551616)) (.var 2)) (.bin .add (.fn 0 (.bin .add (.bin .mul (.var 1) (.lit 18446744073709551616)) (.var 2)) (.lit 0) (.lit 0)) (.lit (-53))) (.lit 0)) (.lit 18446744073709551616)))), (.un .bnot (.bin .eq (.bin (.bits .or .u64) (.var 1) (.var 2)) (.lit 0))), (.bin .le (.lit 0) (.bin .add (.fn 0 (.bin .add (.bin .mul (.var 1) (.lit 18446744073709551616)) (.var 2)) (.lit 0) (.lit 0)) (.lit (-53)))), (.bin .le (.bin .sub (.lit (-1074)) (.var 3)) (.bin .add (.fn 0 (.bin .add (.bin .mul (.var 1) (.lit 18446744073709551616)) (.var 2)) (.lit 0) (.lit 0)) (.lit (-53)))), (.bin .le (.lit (-5000)) (.var 3)), (.bin .le (.var 3) (.lit 5000))], (.int .u64 (.bin (.bits .or .u64) (.bin (.bits .or .u64) (.ite (.un .bnot (.un .bnot (.var 0))) (.lit 9223372036854775808) (.lit 0)) (.un (.wrap .u64) (.bin .mul (.un (.wrap .u64) (.bin .add (.bin .add (.var 3) (.bin .add (.fn 0 (.bin .add (.bin .mul (.var 1) (.lit 18446744073709551616)) (.var 2)) (.lit 0) (.lit 0)) (.lit (-53)))) (.lit 1076))) (.lit 4503599627370496)))) (.bin .emod (.bin .ediv (.var 5) (.lit 2)) (.lit 4503599627370496))))),
  ([(.bin .lt (.var 5) (.lit 4503599627370496)), (.un .bnot (.bin .eq (.var 5) (.lit 9007199254740992))), (.un .bnot (.bin .eq (.var 6) (.lit 0))), (.un .bnot (.bin .eq (.var 6) (.lit 1))), (.bin .eq (.var 6) (.fn 3 (.bin .add (.bin .mul (.var 1) (.lit 18446744073709551616)) (.var 2)) (.bin .add (.fn 0 (.bin .add (.bin .mul (.var 1) (.lit 18446744073709551616)) (.var 2)) (.lit 0) (.lit 0)) (.lit (-53))) (.lit 0))), (.bin .eq (.var 5) (.un (.wrap .u64) (.fn 2 (.bin .add (.bin .mul (.var 1) (.lit 18446744073709551616)) (.var 2)) (.bin .add (.fn 0 (.bin .add (.bin .mul (.var 1) (.lit 18446744073709551616)) (.var 2)) (.lit 0) (.lit 0)) (.lit (-53))) (.lit 0)))), (.bin .eq (.var 4) (.un (.wrap .u64) (.bin .ediv (.fn 2 (.bin .add (.bin .mul (.var 1) (.lit 18446744073709551616)) (.var 2)) (.bin .add (.fn 0 (.bin .add (.bin .mul (.var 1) (.lit 18446744073709551616)) (.var 2)) (.lit 0) (.lit 0)) (.lit (-53))) (.lit 0)) (.lit 18446744073709551616)))), (.un .bnot (.bin .eq (.bin (.bits .or .u64) (.var 1) (.var 2)) (.lit 0))), (.bin .le (.lit 0) (.bin .add (.fn 0 (.bin .add (.bin .mul (.var 1) (.lit 18446744073709551616)) (.var 2)) (.lit 0) (.lit 0)) (.lit (-53)))), (.bin .le (.bin .sub (.lit (-1074)) (.var 3)) (.bin .add (.fn 0 (.bin .add (.bin .mul (.var 1) (.lit 18446744073709551616)) (.var 2)) (.lit 0) (.lit 0)) (.lit (-53)))), (.bin .le (.lit (-5000)) (.var 3)), (.bin .le (.var 3) (.lit 5000))], (.int .u64 (.bin (.bits .or .u64) (.ite (.un .bnot (.un .bnot (.var 0))) (.lit 9223372036854775808) (.lit 0)) (.var 5)))),
  ([(.bin .le (.lit 2047) (.bin .add (.bin .add (.var 3) (.bin .add (.fn 0 (.bin .add (.bin .mul (.var 1) (.lit 18446744073709551616)) (.var 2)) (.lit 0) (.lit 0)) (.lit (-53)))) (.lit 1075))), (.bin .le (.lit 4503599627370496) (.var 5)), (.un .bnot (.bin .eq (.var 5) (.lit 9007199254740992))), (.un .bnot (.bin .eq (.var 6) (.lit 0))), (.un .bnot (.bin .eq (.var 6) (.lit 1))), (.bin .eq (.var 6) (.fn 3 (.bin .add (.bin .mul (.var 1) (.lit 18446744073709551616)) (.var 2)) (.bin .add (.fn 0 (.bin .add (.bin .mul (.var 1) (.lit 18446744073709551616)) (.var 2)) (.lit 0) (.lit 0)) (.lit (-53))) (.lit 0))), (.bin .eq (.var 5) (.un (.wrap .u64) (.fn 2 (.bin .add (.bin .mul (.var 1) (.lit 18446744073709551616)) (.var 2)) (.bin .add (.fn 0 (.bin .add (.bin .mul (.var 1) (.lit 18446744073709551616)) (.var 2)) (.lit 0) (.lit 0)) (.lit (-53))) (.lit 0)))), (.bin .eq (.var 4) (.un (.wrap .u64) (.bin .ediv (.fn 2 (.bin .add (.bin .mul (.var 1) (.lit 18446744073709551616)) (.var 2)) (.bin .add (.fn 0 (.bin .add (.bin .mul (.var 1) (.lit 18446744073709551616)) (.var 2)) (.lit 0) (.lit 0)) (.lit (-53))) (.lit 0)) (.lit 18446744073709551616)))), (.un .bnot (.bin .eq (.bin (.bits .or .u64) (.var 1) (.var 2)) (.lit 0))), (.bin .le (.lit 0) (.bin .add (.fn 0 (.bin .add (.bin .mul (.var 1) (.lit 18446744073709551616)) (.var 2)) (.lit 0) (.lit 0)) (.lit (-53)))), (.bin .le (.bin .sub (.lit (-1074)) (.var 3)) (.bin .add (.fn 0 (.bin .add (.bin .mul (.var 1) (.lit 18446744073709551616)) (.var 2)) (.lit 0) (.lit 0)) (.lit (-53)))), (.bin .le (.lit (-5000)) (.var 3)), (.bin .le (.var 3) (.lit 5000))], (.int .u64 (.ite (.un .bnot (.un .bnot (.var 0))) (.lit 18442240474082181120) (.lit 9218868437227405312)))),
  ([(.bin .lt (.bin .add (.bin .add (.var 3) (.bin .add (.fn 0 (.bin .add (.bin .mul (.var 1) (.lit 18446744073709551616)) (.var 2)) (.lit 0) (.lit 0)) (.lit (-53)))) (.lit 1075)) (.lit 2047)), (.bin .le (.lit 4503599627370496) (.var 5)), (.un .bnot (.bin .eq (.var 5) (.lit 9007199254740992))), (.un .bnot (.bin .eq (.var 6) (.lit 0))), (.un .bnot (.bin .eq (.var 6) (.lit 1))), (.bin .eq (.var 6) (.fn 3 (.bin .add (.bin .mul (.var 1) (.lit 18446744073709551616)) (.var 2)) (.bin .add (.fn 0 (.bin .add (.bin .mul (.var 1) (.lit 18446744073709551616)) (.var 2)) (.lit 0) (.lit 0)) (.lit (-53))) (.lit 0))), (.bin .eq (.var 5) (.un (.wrap .u64) (.fn 2 (.bin .add (.bin .mul (.var 1) (.lit 18446744073709551616)) (.var 2)) (.bin .add (.fn 0 (.bin .add (.bin .mul (.var 1) (.lit 18446744073709551616)) (.var 2)) (.lit 0) (.lit 0)) (.lit (-53))) (.lit 0)))), (.bin .eq (.var 4) (.un (.wrap .u64) (.bin .ediv (.fn 2 (.bin .add (.bin .mul (.var 1) (.lit 18446744073709551616)) (.var 2)) (.bin .add (.fn 0 (.bin .add (.bin .mul (.var 1) (.lit 18446744073709551616)) (.var 2)) (.lit 0) (.lit 0)) (.lit (-53))) (.lit 0)) (.lit 18446744073709551616)))), (.un .bnot (.bin .eq (.bin (.bits .or .u64) (.var 1) (.var 2)) (.lit 0))), (.bin .le (.lit 0) (.bin .add (.fn 0 (.bin .add (.bin .mul (.var 1) (.lit 18446744073709551616)) (.var 2)) (.lit 0) (.lit 0)) (.lit (-53)))), (.bin .le (.bin .sub (.lit (-1074)) (.var 3)) (.bin .add (.fn 0 (.bin .add (.bin .mul (.var 1) (.lit 18446744073709551616)) (.var 2)) (.lit 0) (.lit 0)) (.lit (-53)))), (.bin .le (.lit (-5000)) (.var 3)), (.bin .le (.var 3) (.lit 5000))], (.int .u64 (.bin (.bits .or .u64) (.bin (.bits .or .u64) (.ite (.un .bnot (.un .bnot (.var 0))) (.lit 9223372036854775808) (.lit 0)) (.un (.wrap .u64) (.bin .mul (.un (.wrap .u64) (.bin .add (.bin .add (.var 3) (.bin .add (.fn 0 (.bin .add (.bin .mul (.var 1) (.lit 18446744073709551616)) (.var 2)) (.lit 0) (.lit 0)) (.lit (-53)))) (.lit 1075))) (.lit 4503599627370496)))) (.bin .emod (.var 5) (.lit 4503599627370496)))))]
set_option maxRecDepth 100000 in
theorem rndB1Ran : runOfG Try.prog (orcs (gOracle gsD0) (orcs (specOracle [longS]) (nameO (specOracle [downS])))) noLoops (bodies fns) [] 4000 rndB1 = some rndB1R := by kernel_rfl
end Go.Proofs.Ytnodelimomljbaa.RunRndB1
