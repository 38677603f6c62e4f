/- The contract of convn.Of, of the floats that are cut. No condition. -/
import Derived.Test.YtnodelimomljbaaPlFltSr
namespace Go.Sx.Flt
open Go Go.Sx
/-- the float that is cut: of 32 bits or of 64 -/
def cx32 : E := un (.fconv .f32 .f64) (u32 (v 1))
def cx64 : E := u64 (v 1)
def cn32 : E := bi .eq cx32 (.lit (-1))
def cn64 : E := no (bi .eq (bi (.ford .f64) cx64 cx64) (.lit 0))
def cutT (x : E) : E := un (.ftrunc .f64) x
def cutV (n x : E) (lo hi : Int) (w : E → E) : E := .ite n (.lit 0) (.ite (bi .lt (cutT x) (.lit lo)) (.lit 0) (.ite (bi .lt (cutT x) (.lit hi)) (w (cutT x)) (.lit 0)))
def cutE (n x : E) (lo hi : Int) : E := .ite n (.lit 600) (.ite (bi .lt (cutT x) (.lit lo)) (.lit 601) (.ite (bi .lt (cutT x) (.lit hi)) (.lit 0) (.lit 601)))
def cvL : List (Int × E) := [(168, cutV cn32 cx32 (-2147483648) 2147483648 u32), (169, cutV cn32 cx32 0 4294967296 u32), (170, cutV cn64 cx64 (-2147483648) 2147483648 u32), (171, cutV cn64 cx64 0 4294967296 u32),
  (174, cutV cn32 cx32 (-9223372036854775808) 9223372036854775808 i64), (175, cutV cn32 cx32 0 18446744073709551616 i64), (176, cutV cn64 cx64 (-9223372036854775808) 9223372036854775808 i64), (177, cutV cn64 cx64 0 18446744073709551616 i64)]
def cvEL : List (Int × E) := [(168, cutE cn32 cx32 (-2147483648) 2147483648), (169, cutE cn32 cx32 0 4294967296), (170, cutE cn64 cx64 (-2147483648) 2147483648), (171, cutE cn64 cx64 0 4294967296),
  (174, cutE cn32 cx32 (-9223372036854775808) 9223372036854775808), (175, cutE cn32 cx32 0 18446744073709551616), (176, cutE cn64 cx64 (-9223372036854775808) 9223372036854775808), (177, cutE cn64 cx64 0 18446744073709551616)]
def cvV : E := sel cvL (.lit 0)
def cvE : E := sel cvEL (.lit 600)
def cvPre : List E := [bi .le (.lit 168) (v 0), bi .le (v 0) (.lit 177), no (bi .eq (v 0) (.lit 172)), no (bi .eq (v 0) (.lit 173))]
def cvS : FSpec := ⟨28, [some .i64, some .i64], cvPre, [(some .i64, cvV), (some .i64, cvE)], []⟩
/-- where a contract's condition is not seen to hold the body is run -/
def soft (o : Oracle) : Oracle := fun f s a => match o f s a with | some none => none | r => r
theorem soft_ok {P : Program} {w0 : Base} {o : Oracle} (h : OracleOk P w0 o) : OracleOk P w0 (soft o) := fun f s a l hl => h f s a l (by
  unfold soft at hl
  split at hl
  · exact absurd hl (by simp)
  · exact hl)
def specsCv : List FSpec := [cvS]
end Go.Sx.Flt
