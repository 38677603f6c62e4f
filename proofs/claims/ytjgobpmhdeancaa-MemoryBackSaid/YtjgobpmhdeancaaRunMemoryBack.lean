/- The ways of the code through numbers, and that the code takes no other. No condition. -/
import Derived.Test.YtjgobpmhdeancaaFns
import Derived.KernelRfl
namespace Go.Proofs.Ytjgobpmhdeancaa.RunMemoryBack
open Go Go.Sx 

def nt (e : E) : E := .un .bnot e
def q0 : E := (.bin .eq (.un (.wrap .u32) (.bin (.bits .or .i64) (.lit 0) (.un (.wrap .u8) (.bin .ediv (.var 2) (.lit 1))))) (.un (.wrap .u8) (.bin .ediv (.var 2) (.lit 1))))
def q1 : E := (.bin .le (.lit 131072) (.var 3))
def q2 : E := (.bin .eq (.un (.wrap .u32) (.bin (.bits .or .i64) (.lit 0) (.un (.wrap .u8) (.bin .ediv (.var 2) (.lit 256))))) (.un (.wrap .u8) (.bin .ediv (.var 2) (.lit 256))))
def q3 : E := (.bin .eq (.un (.wrap .u32) (.bin (.bits .or .i64) (.lit 0) (.un (.wrap .u8) (.bin .ediv (.var 2) (.lit 65536))))) (.un (.wrap .u8) (.bin .ediv (.var 2) (.lit 65536))))
def q4 : E := (.bin .eq (.un (.wrap .u32) (.bin (.bits .or .i64) (.lit 0) (.un (.wrap .u8) (.bin .ediv (.var 2) (.lit 16777216))))) (.un (.wrap .u8) (.bin .ediv (.var 2) (.lit 16777216))))
def q5 : E := (.bin .eq (.un (.wrap .u32) (.bin (.bits .or .i64) (.lit 0) (.un (.wrap .u8) (.bin .ediv (.var 2) (.lit 4294967296))))) (.un (.wrap .u8) (.bin .ediv (.var 2) (.lit 4294967296))))
def q6 : E := (.bin .eq (.un (.wrap .u32) (.bin (.bits .or .i64) (.lit 0) (.un (.wrap .u8) (.bin .ediv (.var 2) (.lit 1099511627776))))) (.un (.wrap .u8) (.bin .ediv (.var 2) (.lit 1099511627776))))
def q7 : E := (.bin .eq (.un (.wrap .u32) (.bin (.bits .or .i64) (.lit 0) (.un (.wrap .u8) (.bin .ediv (.var 2) (.lit 281474976710656))))) (.un (.wrap .u8) (.bin .ediv (.var 2) (.lit 281474976710656))))
def q8 : E := (.bin .eq (.un (.wrap .u32) (.bin (.bits .or .i64) (.lit 0) (.un (.wrap .u8) (.bin .ediv (.var 2) (.lit 72057594037927936))))) (.un (.wrap .u8) (.bin .ediv (.var 2) (.lit 72057594037927936))))
def q9 : E := (.bin .eq (.un (.wrap .u32) (.bin (.bits .or .i64) (.un (.wrap .i64) (.bin .mul (.bin (.bits .or .i64) (.un (.wrap .i64) (.bin .mul (.bin (.bits .or .i64) (.un (.wrap .i64) (.bin .mul (.bin (.bits .or .i64) (.lit 0) (.un (.wrap .u8) (.bin .ediv (.var 2) (.lit 72057594037927936)))) (.lit 256))) (.un (.wrap .u8) (.bin .ediv (.var 2) (.lit 281474976710656)))) (.lit 256))) (.un (.wrap .u8) (.bin .ediv (.var 2) (.lit 1099511627776)))) (.lit 256))) (.un (.wrap .u8) (.bin .ediv (.var 2) (.lit 4294967296))))) (.un (.wrap .u32) (.bin .ediv (.var 2) (.lit 4294967296))))
def q10 : E := (.bin .eq (.un (.wrap .u32) (.bin (.bits .or .i64) (.un (.wrap .i64) (.bin .mul (.bin (.bits .or .i64) (.un (.wrap .i64) (.bin .mul (.bin (.bits .or .i64) (.un (.wrap .i64) (.bin .mul (.bin (.bits .or .i64) (.lit 0) (.un (.wrap .u8) (.bin .ediv (.var 2) (.lit 16777216)))) (.lit 256))) (.un (.wrap .u8) (.bin .ediv (.var 2) (.lit 65536)))) (.lit 256))) (.un (.wrap .u8) (.bin .ediv (.var 2) (.lit 256)))) (.lit 256))) (.un (.wrap .u8) (.bin .ediv (.var 2) (.lit 1))))) (.un (.wrap .u32) (.var 2)))
def q11 : E := (.bin .eq (.bin (.bits .or .i64) (.un (.wrap .i64) (.bin .mul (.bin (.bits .or .i64) (.un (.wrap .i64) (.bin .mul (.bin (.bits .or .i64) (.un (.wrap .i64) (.bin .mul (.bin (.bits .or .i64) (.un (.wrap .i64) (.bin .mul (.bin (.bits .or .i64) (.un (.wrap .i64) (.bin .mul (.bin (.bits .or .i64) (.un (.wrap .i64) (.bin .mul (.bin (.bits .or .i64) (.un (.wrap .i64) (.bin .mul (.bin (.bits .or .i64) (.lit 0) (.un (.wrap .u8) (.bin .ediv (.var 2) (.lit 72057594037927936)))) (.lit 256))) (.un (.wrap .u8) (.bin .ediv (.var 2) (.lit 281474976710656)))) (.lit 256))) (.un (.wrap .u8) (.bin .ediv (.var 2) (.lit 1099511627776)))) (.lit 256))) (.un (.wrap .u8) (.bin .ediv (.var 2) (.lit 4294967296)))) (.lit 256))) (.un (.wrap .u8) (.bin .ediv (.var 2) (.lit 16777216)))) (.lit 256))) (.un (.wrap .u8) (.bin .ediv (.var 2) (.lit 65536)))) (.lit 256))) (.un (.wrap .u8) (.bin .ediv (.var 2) (.lit 256)))) (.lit 256))) (.un (.wrap .u8) (.bin .ediv (.var 2) (.lit 1)))) (.var 2))
def lawR : List Leaf := [
  ([nt q0, q1], .bool (.lit 0)),
  ([nt q2, q0, q1], .bool (.lit 0)),
  ([nt q3, q2, q0, q1], .bool (.lit 0)),
  ([nt q4, q3, q2, q0, q1], .bool (.lit 0)),
  ([nt q5, q4, q3, q2, q0, q1], .bool (.lit 0)),
  ([nt q6, q5, q4, q3, q2, q0, q1], .bool (.lit 0)),
  ([nt q7, q6, q5, q4, q3, q2, q0, q1], .bool (.lit 0)),
  ([nt q8, q7, q6, q5, q4, q3, q2, q0, q1], .bool (.lit 0)),
  ([q9, q10, q11, q8, q7, q6, q5, q4, q3, q2, q0, q1], .bool (.lit 1)),
  ([nt q9, q10, q11, q8, q7, q6, q5, q4, q3, q2, q0, q1], .bool (.lit 0)),
  ([nt q10, q11, q8, q7, q6, q5, q4, q3, q2, q0, q1], .bool (.lit 0)),
  ([nt q11, q8, q7, q6, q5, q4, q3, q2, q0, q1], .bool (.lit 0))]
set_option maxRecDepth 100000 in
theorem lawRan : runOf Try.prog noOracle noLoops (bodies fns) [] 4000 3 [some .i64, some .i64, some .i64] [] = some lawR := by kernel_rfl
end Go.Proofs.Ytjgobpmhdeancaa.RunMemoryBack
