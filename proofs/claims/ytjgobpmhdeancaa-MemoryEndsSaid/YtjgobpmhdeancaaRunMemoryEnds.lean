/- The ways of the code through numbers, and that the code takes no other. No condition. -/
import Derived.Test.YtjgobpmhdeancaaFns
import Derived.KernelRfl
namespace Go.Proofs.Ytjgobpmhdeancaa.RunMemoryEnds
open Go Go.Sx 

def nt (e : E) : E := .un .bnot e
def q0 : E := (.bin .eq (.bin .emod (.un (.wrap .u64) (.var 0)) (.lit 23)) (.lit 0))
def q1 : E := (.bin .le (.lit 131072) (.var 2))
def q2 : E := (.bin .eq (.bin .emod (.un (.wrap .u64) (.var 0)) (.lit 23)) (.lit 1))
def q3 : E := (.bin .eq (.bin .emod (.un (.wrap .u64) (.var 0)) (.lit 23)) (.lit 2))
def q4 : E := (.bin .eq (.bin .emod (.un (.wrap .u64) (.var 0)) (.lit 23)) (.lit 3))
def q5 : E := (.bin .eq (.bin .emod (.un (.wrap .u64) (.var 0)) (.lit 23)) (.lit 4))
def q6 : E := (.bin .eq (.bin .emod (.un (.wrap .u64) (.var 0)) (.lit 23)) (.lit 5))
def q7 : E := (.bin .eq (.bin .emod (.un (.wrap .u64) (.var 0)) (.lit 23)) (.lit 6))
def q8 : E := (.bin .eq (.bin .emod (.un (.wrap .u64) (.var 0)) (.lit 23)) (.lit 7))
def q9 : E := (.bin .eq (.bin .emod (.un (.wrap .u64) (.var 0)) (.lit 23)) (.lit 8))
def q10 : E := (.bin .eq (.bin .emod (.un (.wrap .u64) (.var 0)) (.lit 23)) (.lit 9))
def q11 : E := (.bin .eq (.bin .emod (.un (.wrap .u64) (.var 0)) (.lit 23)) (.lit 10))
def q12 : E := (.bin .eq (.bin .emod (.un (.wrap .u64) (.var 0)) (.lit 23)) (.lit 11))
def q13 : E := (.bin .eq (.bin .emod (.un (.wrap .u64) (.var 0)) (.lit 23)) (.lit 12))
def q14 : E := (.bin .eq (.bin .emod (.un (.wrap .u64) (.var 0)) (.lit 23)) (.lit 13))
def q15 : E := (.bin .eq (.bin .emod (.un (.wrap .u64) (.var 0)) (.lit 23)) (.lit 14))
def q16 : E := (.bin .eq (.bin .emod (.un (.wrap .u64) (.var 0)) (.lit 23)) (.lit 15))
def q17 : E := (.bin .eq (.bin .emod (.un (.wrap .u64) (.var 0)) (.lit 23)) (.lit 16))
def q18 : E := (.bin .eq (.bin .emod (.un (.wrap .u64) (.var 0)) (.lit 23)) (.lit 17))
def q19 : E := (.bin .eq (.bin .emod (.un (.wrap .u64) (.var 0)) (.lit 23)) (.lit 18))
def q20 : E := (.bin .eq (.bin .emod (.un (.wrap .u64) (.var 0)) (.lit 23)) (.lit 19))
def q21 : E := (.bin .eq (.bin .emod (.un (.wrap .u64) (.var 0)) (.lit 23)) (.lit 20))
def q22 : E := (.bin .eq (.bin .emod (.un (.wrap .u64) (.var 0)) (.lit 23)) (.lit 21))
def q23 : E := (.bin .eq (.bin .emod (.un (.wrap .u64) (.var 0)) (.lit 23)) (.lit 22))
def lawR : List Leaf := [
  ([q0, q1], .bool (.lit 1)),
  ([q2, q1], .bool (.lit 1)),
  ([q3, q1], .bool (.lit 1)),
  ([q4, q1], .bool (.lit 1)),
  ([q5, q1], .bool (.lit 1)),
  ([q6, q1], .bool (.lit 1)),
  ([q7, q1], .bool (.lit 1)),
  ([q8, q1], .bool (.lit 1)),
  ([q9, q1], .bool (.lit 1)),
  ([q10, q1], .bool (.lit 1)),
  ([q11, q1], .bool (.lit 1)),
  ([q12, q1], .bool (.lit 1)),
  ([q13, q1], .bool (.lit 1)),
  ([q14, q1], .bool (.lit 1)),
  ([q15, q1], .bool (.lit 1)),
  ([q16, q1], .bool (.lit 1)),
  ([q17, q1], .bool (.lit 1)),
  ([q18, q1], .bool (.lit 1)),
  ([q19, q1], .bool (.lit 1)),
  ([q20, q1], .bool (.lit 1)),
  ([q21, q1], .bool (.lit 1)),
  ([q22, q1], .bool (.lit 1)),
  ([q23, q1], .bool (.lit 1))]
set_option maxRecDepth 100000 in
theorem lawRan : runOf Try.prog noOracle noLoops (bodies fns) [] 4000 4 [some .i64, some .i64] [] = some lawR := by kernel_rfl
end Go.Proofs.Ytjgobpmhdeancaa.RunMemoryEnds
