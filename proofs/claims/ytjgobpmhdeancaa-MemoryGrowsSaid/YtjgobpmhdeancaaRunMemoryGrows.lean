/- The ways of the code through numbers, and that the code takes no other. No condition. -/
import Derived.Test.YtjgobpmhdeancaaGsMemoryGrows
import Derived.KernelRfl
namespace Go.Proofs.Ytjgobpmhdeancaa.RunMemoryGrows
open Go Go.Sx Go.Proofs.Ytjgobpmhdeancaa

def bd : Bd := [(.var 0, kindIv .i64), (.var 1, kindIv .i64), (.var 2, kindIv .i64), (.var 3, iv01)]
def args : List V := [.int .i64 (.var 0), .int .i64 (.var 1), .int .i64 (.var 2), .vf 0 (.lit 0)]
def nt (e : E) : E := .un .bnot e
def q0 : E := (.bin .lt (.bin .emod (.var 2) (.lit 16)) (.bin .emod (.un (.wrap .u64) (.var 0)) (.bin .add (.bin .emod (.var 2) (.lit 16)) (.lit 1))))
def q1 : E := (.bin .eq (.bin .emod (.var 1) (.lit 2)) (.lit 1))
def q2 : E := (.bin .le (.lit 131072) (.var 4))
def q3 : E := (.bin .eq (.bin .ediv (.bin .mul (.var 5) (.lit 65536)) (.lit 65536)) (.var 5))
def q4 : E := (.bin .lt (.bin .sub (.ite (.bin .lt (.bin .add (.bin .emod (.un (.wrap .u64) (.var 0)) (.bin .add (.bin .emod (.var 2) (.lit 16)) (.lit 1))) (.bin .emod (.bin .ediv (.var 1) (.lit 2)) (.lit 8))) (.bin .emod (.var 2) (.lit 16))) (.bin .add (.bin .emod (.un (.wrap .u64) (.var 0)) (.bin .add (.bin .emod (.var 2) (.lit 16)) (.lit 1))) (.bin .emod (.bin .ediv (.var 1) (.lit 2)) (.lit 8))) (.bin .emod (.var 2) (.lit 16))) (.bin .ediv (.bin .mul (.var 5) (.lit 65536)) (.lit 65536))) (.bin .emod (.un (.wrap .i64) (.fn 0 (.var 6) (.lit 0) (.lit 0))) (.lit 8)))
def q5 : E := (.bin .lt (.bin .sub (.ite (.bin .lt (.bin .add (.bin .emod (.un (.wrap .u64) (.var 0)) (.bin .add (.bin .emod (.var 2) (.lit 16)) (.lit 1))) (.bin .emod (.bin .ediv (.var 1) (.lit 2)) (.lit 8))) (.bin .emod (.var 2) (.lit 16))) (.bin .add (.bin .emod (.un (.wrap .u64) (.var 0)) (.bin .add (.bin .emod (.var 2) (.lit 16)) (.lit 1))) (.bin .emod (.bin .ediv (.var 1) (.lit 2)) (.lit 8))) (.bin .emod (.var 2) (.lit 16))) (.var 5)) (.bin .emod (.un (.wrap .i64) (.fn 0 (.var 6) (.lit 0) (.lit 0))) (.lit 8)))
def q6 : E := (.bin .lt (.var 6) (.lit 12))
def q7 : E := (.bin .lt (.var 6) (.fn 1 (.lit 0) (.lit 0) (.lit 0)))
def q8 : E := (.bin .le (.bin .mul (.bin .emod (.un (.wrap .u64) (.var 0)) (.bin .add (.bin .emod (.var 2) (.lit 16)) (.lit 1))) (.lit 65536)) (.bin .mul (.var 5) (.lit 65536)))
def q9 : E := (.bin .le (.var 5) (.ite (.bin .lt (.bin .add (.bin .emod (.un (.wrap .u64) (.var 0)) (.bin .add (.bin .emod (.var 2) (.lit 16)) (.lit 1))) (.bin .emod (.bin .ediv (.var 1) (.lit 2)) (.lit 8))) (.bin .emod (.var 2) (.lit 16))) (.bin .add (.bin .emod (.un (.wrap .u64) (.var 0)) (.bin .add (.bin .emod (.var 2) (.lit 16)) (.lit 1))) (.bin .emod (.bin .ediv (.var 1) (.lit 2)) (.lit 8))) (.bin .emod (.var 2) (.lit 16))))
def q10 : E := (.bin .le (.bin .mul (.var 5) (.lit 65536)) (.var 7))
def q11 : E := (.bin .lt (.lit 0) (.bin .emod (.un (.wrap .u64) (.var 0)) (.bin .add (.bin .emod (.var 2) (.lit 16)) (.lit 1))))
def q12 : E := (.bin .le (.bin .emod (.un (.wrap .u64) (.var 0)) (.bin .add (.bin .emod (.var 2) (.lit 16)) (.lit 1))) (.bin .emod (.var 2) (.lit 16)))
def q13 : E := (.bin .le (.bin .add (.bin .mul (.var 5) (.lit 65536)) (.bin .mul (.bin .emod (.un (.wrap .i64) (.fn 0 (.var 6) (.lit 0) (.lit 0))) (.lit 8)) (.lit 65536))) (.var 9))
def q14 : E := (.bin .le (.bin .emod (.un (.wrap .i64) (.fn 0 (.var 6) (.lit 0) (.lit 0))) (.lit 8)) (.bin .sub (.ite (.bin .lt (.bin .add (.bin .emod (.un (.wrap .u64) (.var 0)) (.bin .add (.bin .emod (.var 2) (.lit 16)) (.lit 1))) (.bin .emod (.bin .ediv (.var 1) (.lit 2)) (.lit 8))) (.bin .emod (.var 2) (.lit 16))) (.bin .add (.bin .emod (.un (.wrap .u64) (.var 0)) (.bin .add (.bin .emod (.var 2) (.lit 16)) (.lit 1))) (.bin .emod (.bin .ediv (.var 1) (.lit 2)) (.lit 8))) (.bin .emod (.var 2) (.lit 16))) (.bin .ediv (.bin .mul (.var 5) (.lit 65536)) (.lit 65536))))
def q15 : E := (.bin .le (.bin .emod (.un (.wrap .i64) (.fn 0 (.var 6) (.lit 0) (.lit 0))) (.lit 8)) (.bin .sub (.ite (.bin .lt (.bin .add (.bin .emod (.un (.wrap .u64) (.var 0)) (.bin .add (.bin .emod (.var 2) (.lit 16)) (.lit 1))) (.bin .emod (.bin .ediv (.var 1) (.lit 2)) (.lit 8))) (.bin .emod (.var 2) (.lit 16))) (.bin .add (.bin .emod (.un (.wrap .u64) (.var 0)) (.bin .add (.bin .emod (.var 2) (.lit 16)) (.lit 1))) (.bin .emod (.bin .ediv (.var 1) (.lit 2)) (.lit 8))) (.bin .emod (.var 2) (.lit 16))) (.var 5)))
def q16 : E := (.bin .eq (.bin .ediv (.bin .add (.bin .mul (.var 5) (.lit 65536)) (.bin .mul (.bin .emod (.un (.wrap .i64) (.fn 0 (.var 6) (.lit 0) (.lit 0))) (.lit 8)) (.lit 65536))) (.lit 65536)) (.bin .add (.var 5) (.bin .emod (.un (.wrap .i64) (.fn 0 (.var 6) (.lit 0) (.lit 0))) (.lit 8))))
def q17 : E := (.bin .eq (.var 9) (.bin .add (.bin .mul (.bin .emod (.un (.wrap .u64) (.var 0)) (.bin .add (.bin .emod (.var 2) (.lit 16)) (.lit 1))) (.lit 65536)) (.lit (-1))))
def q18 : E := (.bin .eq (.ite (.bin .and (.bin .le (.bin .sub (.bin .mul (.bin .emod (.un (.wrap .u64) (.var 0)) (.bin .add (.bin .emod (.var 2) (.lit 16)) (.lit 1))) (.lit 65536)) (.lit 1)) (.var 9)) (.bin .lt (.var 9) (.bin .mul (.bin .emod (.un (.wrap .u64) (.var 0)) (.bin .add (.bin .emod (.var 2) (.lit 16)) (.lit 1))) (.lit 65536)))) (.lit 7) (.lit 0)) (.lit 0))
def q19 : E := (.bin .lt (.var 9) (.bin .mul (.var 5) (.lit 65536)))
def q20 : E := (.bin .le (.var 9) (.bin .add (.bin .mul (.var 5) (.lit 65536)) (.lit 4095)))
def q21 : E := (.bin .le (.lit 12) (.var 6))
def q22 : E := (.bin .le (.bin .mul (.var 5) (.lit 65536)) (.var 9))
def q23 : E := (.bin .le (.fn 1 (.lit 0) (.lit 0) (.lit 0)) (.var 6))
def q24 : E := (.bin .le (.bin .emod (.un (.wrap .u64) (.var 0)) (.bin .add (.bin .emod (.var 2) (.lit 16)) (.lit 1))) (.lit 0))
def q25 : E := (.bin .lt (.bin .sub (.bin .emod (.var 2) (.lit 16)) (.bin .ediv (.bin .mul (.var 5) (.lit 65536)) (.lit 65536))) (.bin .emod (.un (.wrap .i64) (.fn 0 (.var 6) (.lit 0) (.lit 0))) (.lit 8)))
def q26 : E := (.bin .lt (.bin .sub (.bin .emod (.var 2) (.lit 16)) (.var 5)) (.bin .emod (.un (.wrap .i64) (.fn 0 (.var 6) (.lit 0) (.lit 0))) (.lit 8)))
def q27 : E := (.bin .le (.var 5) (.bin .emod (.var 2) (.lit 16)))
def q28 : E := (.bin .le (.bin .emod (.un (.wrap .i64) (.fn 0 (.var 6) (.lit 0) (.lit 0))) (.lit 8)) (.bin .sub (.bin .emod (.var 2) (.lit 16)) (.bin .ediv (.bin .mul (.var 5) (.lit 65536)) (.lit 65536))))
def q29 : E := (.bin .le (.bin .emod (.un (.wrap .i64) (.fn 0 (.var 6) (.lit 0) (.lit 0))) (.lit 8)) (.bin .sub (.bin .emod (.var 2) (.lit 16)) (.var 5)))
def lawR : List Leaf := [
  ([q0, q1, q2], .bool (.lit 0)),
  ([nt q3, q4, q5, q6, q7, q8, q9, q10, q11, q12, q1, q2], .bool (.lit 0)),
  ([q13, q14, q5, q6, q7, q8, q9, q10, q11, q12, q1, q2], .bool (.lit 0)),
  ([q4, q15, q6, q7, q8, q9, q10, q11, q12, q1, q2], .bool (.lit 0)),
  ([nt q3, q13, q14, q15, q6, q7, q8, q9, q10, q11, q12, q1, q2], .bool (.lit 0)),
  ([nt q16, q3, q13, q14, q15, q6, q7, q8, q9, q10, q11, q12, q1, q2], .bool (.lit 0)),
  ([nt q17, nt q18, q19, q20, q21, q7, q8, q9, q10, q11, q12, q1, q2], .bool (.lit 0)),
  ([q22, q20, q21, q7, q8, q9, q10, q11, q12, q1, q2], .bool (.lit 1)),
  ([nt q17, nt q18, q19, q20, q23, q8, q9, q10, q11, q12, q1, q2], .bool (.lit 0)),
  ([q22, q20, q23, q8, q9, q10, q11, q12, q1, q2], .bool (.lit 1)),
  ([nt q3, q4, q5, q6, q7, q8, q9, q10, q24, q12, q1, q2], .bool (.lit 0)),
  ([q13, q14, q5, q6, q7, q8, q9, q10, q24, q12, q1, q2], .bool (.lit 0)),
  ([q4, q15, q6, q7, q8, q9, q10, q24, q12, q1, q2], .bool (.lit 0)),
  ([nt q3, q13, q14, q15, q6, q7, q8, q9, q10, q24, q12, q1, q2], .bool (.lit 0)),
  ([nt q16, q3, q13, q14, q15, q6, q7, q8, q9, q10, q24, q12, q1, q2], .bool (.lit 0)),
  ([q22, q20, q21, q7, q8, q9, q10, q24, q12, q1, q2], .bool (.lit 1)),
  ([q22, q20, q23, q8, q9, q10, q24, q12, q1, q2], .bool (.lit 1)),
  ([q0, nt q1, q2], .bool (.lit 0)),
  ([nt q3, q25, q26, q6, q7, q8, q27, q10, q11, q12, nt q1, q2], .bool (.lit 0)),
  ([q13, q28, q26, q6, q7, q8, q27, q10, q11, q12, nt q1, q2], .bool (.lit 0)),
  ([q25, q29, q6, q7, q8, q27, q10, q11, q12, nt q1, q2], .bool (.lit 0)),
  ([nt q3, q13, q28, q29, q6, q7, q8, q27, q10, q11, q12, nt q1, q2], .bool (.lit 0)),
  ([nt q16, q3, q13, q28, q29, q6, q7, q8, q27, q10, q11, q12, nt q1, q2], .bool (.lit 0)),
  ([nt q17, nt q18, q19, q20, q21, q7, q8, q27, q10, q11, q12, nt q1, q2], .bool (.lit 0)),
  ([q22, q20, q21, q7, q8, q27, q10, q11, q12, nt q1, q2], .bool (.lit 1)),
  ([nt q17, nt q18, q19, q20, q23, q8, q27, q10, q11, q12, nt q1, q2], .bool (.lit 0)),
  ([q22, q20, q23, q8, q27, q10, q11, q12, nt q1, q2], .bool (.lit 1)),
  ([nt q3, q25, q26, q6, q7, q8, q27, q10, q24, q12, nt q1, q2], .bool (.lit 0)),
  ([q13, q28, q26, q6, q7, q8, q27, q10, q24, q12, nt q1, q2], .bool (.lit 0)),
  ([q25, q29, q6, q7, q8, q27, q10, q24, q12, nt q1, q2], .bool (.lit 0)),
  ([nt q3, q13, q28, q29, q6, q7, q8, q27, q10, q24, q12, nt q1, q2], .bool (.lit 0)),
  ([nt q16, q3, q13, q28, q29, q6, q7, q8, q27, q10, q24, q12, nt q1, q2], .bool (.lit 0)),
  ([q22, q20, q21, q7, q8, q27, q10, q24, q12, nt q1, q2], .bool (.lit 1)),
  ([q22, q20, q23, q8, q27, q10, q24, q12, nt q1, q2], .bool (.lit 1))]
set_option maxRecDepth 100000 in
theorem lawRan : runOfI Try.prog noOracle loopedMemoryGrows (bodies fns) inpMemoryGrows 4000 5 4 bd [] args = some lawR := by kernel_rfl
end Go.Proofs.Ytjgobpmhdeancaa.RunMemoryGrows
