/- The contract of f32n.Un, its roots left out. No condition. -/
import Derived.Test.YtnodelimomljbaaPlFltSq
namespace Go.Sx.Flt
open Go Go.Sx
def wholeE32 (w : Ieee.Toward) : E := .ite (bi .eq (un (.fconv .f32 .f64) x32) (.lit (-1))) nan32 (un (.fconv .f64 .f32) (un (.fwhole w) (un (.fconv .f32 .f64) x32)))
def unT32L : List (Int × E) := [(139, u32 (bi (.bits .andNot .i64) (v 1) sign32)), (140, u32 (bi (.bits .xor .i64) (v 1) sign32)), (141, wholeE32 .up), (142, wholeE32 .down), (143, wholeE32 .zero), (144, wholeE32 .even)]
def unTV32 : E := sel unT32L (.lit 0)
def unTE32 : E := errs [139, 140, 141, 142, 143, 144] 400
def unT32 : FSpec := ⟨35, [some .i64, some .i64], [no (bi .eq (v 0) (.lit 145))], [(some .i64, unTV32), (some .i64, unTE32)], [(unTV32, (some 0, some 4294967295))]⟩
def specsU32 : List FSpec := [unT32, binT32, aw32]
end Go.Sx.Flt
