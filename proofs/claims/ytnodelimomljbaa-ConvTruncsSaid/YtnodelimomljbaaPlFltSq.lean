/- The contract of f32n.Bin, with the lesser and the greater. No condition. -/
import Derived.Test.YtnodelimomljbaaPlFltSp
namespace Go.Sx.Flt
open Go Go.Sx
def pickE32 (g : Bool) : E := .ite (no (bi .eq (bi (.ford .f32) x32 x32) (.lit 0))) nan32 (.ite (no (bi .eq (bi (.ford .f32) y32 y32) (.lit 0))) nan32 (un (.fconv .f64 .f32) (bi (.fpick g) (un (.fconv .f32 .f64) x32) (un (.fconv .f32 .f64) y32))))
def binT32L : List (Int × E) := [(91, tr (bi .eq o32 (.lit 0))), (92, tr (no (bi .eq o32 (.lit 0)))), (93, tr (bi .eq o32 (.lit 1))), (94, tr (bi .eq o32 (.lit 2))), (95, tr (bi .le o32 (.lit 1))), (96, tr (bi .or (bi .eq o32 (.lit 2)) (bi .eq o32 (.lit 0)))),
  (146, can32 (bi (.far .add .f32) x32 y32)), (147, can32 (bi (.far .sub .f32) x32 y32)), (148, can32 (bi (.far .mul .f32) x32 y32)), (149, can32 (bi (.far .quo .f32) x32 y32)), (150, pickE32 true), (151, pickE32 false),
  (152, u32 (bi (.bits .or .i64) (bi (.bits .andNot .i64) (v 1) sign32) (bi (.bits .and .i64) (v 2) sign32)))]
def binTV32 : E := sel binT32L (.lit 0)
def binTE32 : E := errs [91, 92, 93, 94, 95, 96, 146, 147, 148, 149, 150, 151, 152] 400
def binT32 : FSpec := ⟨37, [some .i64, some .i64, some .i64], [], [(some .i64, binTV32), (some .i64, binTE32)], [(binTV32, (some 0, some 4294967295))]⟩
def specsT32 : List FSpec := [binT32, aw32]
end Go.Sx.Flt
