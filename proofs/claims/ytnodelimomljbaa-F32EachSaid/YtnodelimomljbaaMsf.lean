/- Texts that a claim needs, put together: the engine, plain lemmas, contracts. No condition. -/
import Derived.Test.YtnodelimomljbaaMsb
import Derived.KernelRfl
import Derived.Test.YtnodelimomljbaaMse
import Derived.Test.YtnodelimomljbaaMsc
import Derived.Test.YtnodelimomljbaaMsd

/- The ways of the code through numbers, and that the code takes no other. No condition. -/
namespace Go.Proofs.Ytnodelimomljbaa.RunOp32
open Go Go.Sx Go.Sx.Flt

def binR : List Leaf := [
  ([(.bin .eq (.bin (.ford .f32) (.un (.wrap .u32) (.var 1)) (.un (.wrap .u32) (.var 2))) (.lit 0)), (.bin .eq (.bin .add (.var 0) (.lit (-91))) (.lit 0)), (.bin .le (.var 0) (.lit 96)), (.bin .le (.lit 91) (.var 0)), (.un .bnot (.bin .eq (.var 0) (.lit 150))), (.un .bnot (.bin .eq (.var 0) (.lit 151)))], (.tup [(.int .i64 (.lit 1)), (.int .i64 (.lit 0))])),
  ([(.un .bnot (.bin .eq (.bin (.ford .f32) (.un (.wrap .u32) (.var 1)) (.un (.wrap .u32) (.var 2))) (.lit 0))), (.bin .eq (.bin .add (.var 0) (.lit (-91))) (.lit 0)), (.bin .le (.var 0) (.lit 96)), (.bin .le (.lit 91) (.var 0)), (.un .bnot (.bin .eq (.var 0) (.lit 150))), (.un .bnot (.bin .eq (.var 0) (.lit 151)))], (.tup [(.int .i64 (.lit 0)), (.int .i64 (.lit 0))])),
  ([(.un .bnot (.bin .eq (.bin (.ford .f32) (.un (.wrap .u32) (.var 1)) (.un (.wrap .u32) (.var 2))) (.lit 0))), (.bin .eq (.bin .add (.var 0) (.lit (-91))) (.lit 1)), (.un .bnot (.bin .eq (.bin .add (.var 0) (.lit (-91))) (.lit 0))), (.bin .le (.var 0) (.lit 96)), (.bin .le (.lit 91) (.var 0)), (.un .bnot (.bin .eq (.var 0) (.lit 150))), (.un .bnot (.bin .eq (.var 0) (.lit 151)))], (.tup [(.int .i64 (.lit 1)), (.int .i64 (.lit 0))])),
  ([(.bin .eq (.bin (.ford .f32) (.un (.wrap .u32) (.var 1)) (.un (.wrap .u32) (.var 2))) (.lit 0)), (.bin .eq (.bin .add (.var 0) (.lit (-91))) (.lit 1)), (.un .bnot (.bin .eq (.bin .add (.var 0) (.lit (-91))) (.lit 0))), (.bin .le (.var 0) (.lit 96)), (.bin .le (.lit 91) (.var 0)), (.un .bnot (.bin .eq (.var 0) (.lit 150))), (.un .bnot (.bin .eq (.var 0) (.lit 151)))], (.tup [(.int .i64 (.lit 0)), (.int .i64 (.lit 0))])),
  ([(.bin .eq (.bin (.ford .f32) (.un (.wrap .u32) (.var 1)) (.un (.wrap .u32) (.var 2))) (.lit 1)), (.bin .eq (.bin .add (.var 0) (.lit (-91))) (.lit 2)), (.un .bnot (.bin .eq (.bin .add (.var 0) (.lit (-91))) (.lit 1))), (.un .bnot (.bin .eq (.bin .add (.var 0) (.lit (-91))) (.lit 0))), (.bin .le (.var 0) (.lit 96)), (.bin .le (.lit 91) (.var 0)), (.un .bnot (.bin .eq (.var 0) (.lit 150))), (.un .bnot (.bin .eq (.var 0) (.lit 151)))], (.tup [(.int .i64 (.lit 1)), (.int .i64 (.lit 0))])),
  ([(.un .bnot (.bin .eq (.bin (.ford .f32) (.un (.wrap .u32) (.var 1)) (.un (.wrap .u32) (.var 2))) (.lit 1))), (.bin .eq (.bin .add (.var 0) (.lit (-91))) (.lit 2)), (.un .bnot (.bin .eq (.bin .add (.var 0) (.lit (-91))) (.lit 1))), (.un .bnot (.bin .eq (.bin .add (.var 0) (.lit (-91))) (.lit 0))), (.bin .le (.var 0) (.lit 96)), (.bin .le (.lit 91) (.var 0)), (.un .bnot (.bin .eq (.var 0) (.lit 150))), (.un .bnot (.bin .eq (.var 0) (.lit 151)))], (.tup [(.int .i64 (.lit 0)), (.int .i64 (.lit 0))])),
  ([(.bin .eq (.bin (.ford .f32) (.un (.wrap .u32) (.var 1)) (.un (.wrap .u32) (.var 2))) (.lit 2)), (.bin .eq (.bin .add (.var 0) (.lit (-91))) (.lit 3)), (.un .bnot (.bin .eq (.bin .add (.var 0) (.lit (-91))) (.lit 2))), (.un .bnot (.bin .eq (.bin .add (.var 0) (.lit (-91))) (.lit 1))), (.un .bnot (.bin .eq (.bin .add (.var 0) (.lit (-91))) (.lit 0))), (.bin .le (.var 0) (.lit 96)), (.bin .le (.lit 91) (.var 0)), (.un .bnot (.bin .eq (.var 0) (.lit 150))), (.un .bnot (.bin .eq (.var 0) (.lit 151)))], (.tup [(.int .i64 (.lit 1)), (.int .i64 (.lit 0))])),
  ([(.un .bnot (.bin .eq (.bin (.ford .f32) (.un (.wrap .u32) (.var 1)) (.un (.wrap .u32) (.var 2))) (.lit 2))), (.bin .eq (.bin .add (.var 0) (.lit (-91))) (.lit 3)), (.un .bnot (.bin .eq (.bin .add (.var 0) (.lit (-91))) (.lit 2))), (.un .bnot (.bin .eq (.bin .add (.var 0) (.lit (-91))) (.lit 1))), (.un .bnot (.bin .eq (.bin .add (.var 0) (.lit (-91))) (.lit 0))), (.bin .le (.var 0) (.lit 96)), (.bin .le (.lit 91) (.var 0)), (.un .bnot (.bin .eq (.var 0) (.lit 150))), (.un .bnot (.bin .eq (.var 0) (.lit 151)))], (.tup [(.int .i64 (.lit 0)), (.int .i64 (.lit 0))])),
  ([(.bin .le (.bin (.ford .f32) (.un (.wrap .u32) (.var 1)) (.un (.wrap .u32) (.var 2))) (.lit 1)), (.bin .eq (.bin .add (.var 0) (.lit (-91))) (.lit 4)), (.un .bnot (.bin .eq (.bin .add (.var 0) (.lit (-91))) (.lit 3))), (.un .bnot (.bin .eq (.bin .add (.var 0) (.lit (-91))) (.lit 2))), (.un .bnot (.bin .eq (.bin .add (.var 0) (.lit (-91))) (.lit 1))), (.un .bnot (.bin .eq (.bin .add (.var 0) (.lit (-91))) (.lit 0))), (.bin .le (.var 0) (.lit 96)), (.bin .le (.lit 91) (.var 0)), (.un .bnot (.bin .eq (.var 0) (.lit 150))), (.un .bnot (.bin .eq (.var 0) (.lit 151)))], (.tup [(.int .i64 (.lit 1)), (.int .i64 (.lit 0))])),
  ([(.bin .lt (.lit 1) (.bin (.ford .f32) (.un (.wrap .u32) (.var 1)) (.un (.wrap .u32) (.var 2)))), (.bin .eq (.bin .add (.var 0) (.lit (-91))) (.lit 4)), (.un .bnot (.bin .eq (.bin .add (.var 0) (.lit (-91))) (.lit 3))), (.un .bnot (.bin .eq (.bin .add (.var 0) (.lit (-91))) (.lit 2))), (.un .bnot (.bin .eq (.bin .add (.var 0) (.lit (-91))) (.lit 1))), (.un .bnot (.bin .eq (.bin .add (.var 0) (.lit (-91))) (.lit 0))), (.bin .le (.var 0) (.lit 96)), (.bin .le (.lit 91) (.var 0)), (.un .bnot (.bin .eq (.var 0) (.lit 150))), (.un .bnot (.bin .eq (.var 0) (.lit 151)))], (.tup [(.int .i64 (.lit 0)), (.int .i64 (.lit 0))])),
  ([(.bin .or (.bin .eq (.bin (.ford .f32) (.un (.wrap .u32) (.var 1)) (.un (.wrap .u32) (.var 2))) (.lit 2)) (.bin .eq (.bin (.ford .f32) (.un (.wrap .u32) (.var 1)) (.un (.wrap .u32) (.var 2))) (.lit 0))), (.un .bnot (.bin .eq (.bin .add (.var 0) (.lit (-91))) (.lit 4))), (.un .bnot (.bin .eq (.bin .add (.var 0) (.lit (-91))) (.lit 3))), (.un .bnot (.bin .eq (.bin .add (.var 0) (.lit (-91))) (.lit 2))), (.un .bnot (.bin .eq (.bin .add (.var 0) (.lit (-91))) (.lit 1))), (.un .bnot (.bin .eq (.bin .add (.var 0) (.lit (-91))) (.lit 0))), (.bin .le (.var 0) (.lit 96)), (.bin .le (.lit 91) (.var 0)), (.un .bnot (.bin .eq (.var 0) (.lit 150))), (.un .bnot (.bin .eq (.var 0) (.lit 151)))], (.tup [(.int .i64 (.lit 1)), (.int .i64 (.lit 0))])),
  ([(.un .bnot (.bin .or (.bin .eq (.bin (.ford .f32) (.un (.wrap .u32) (.var 1)) (.un (.wrap .u32) (.var 2))) (.lit 2)) (.bin .eq (.bin (.ford .f32) (.un (.wrap .u32) (.var 1)) (.un (.wrap .u32) (.var 2))) (.lit 0)))), (.un .bnot (.bin .eq (.bin .add (.var 0) (.lit (-91))) (.lit 4))), (.un .bnot (.bin .eq (.bin .add (.var 0) (.lit (-91))) (.lit 3))), (.un .bnot (.bin .eq (.bin .add (.var 0) (.lit (-91))) (.lit 2))), (.un .bnot (.bin .eq (.bin .add (.var 0) (.lit (-91))) (.lit 1))), (.un .bnot (.bin .eq (.bin .add (.var 0) (.lit (-91))) (.lit 0))), (.bin .le (.var 0) (.lit 96)), (.bin .le (.lit 91) (.var 0)), (.un .bnot (.bin .eq (.var 0) (.lit 150))), (.un .bnot (.bin .eq (.var 0) (.lit 151)))], (.tup [(.int .i64 (.lit 0)), (.int .i64 (.lit 0))])),
  ([(.un .bnot (.bin .eq (.bin (.far .add .f32) (.un (.wrap .u32) (.var 1)) (.un (.wrap .u32) (.var 2))) (.lit (-1)))), (.bin .eq (.bin .add (.var 0) (.lit (-146))) (.lit 0)), (.bin .le (.var 0) (.lit 151)), (.bin .le (.lit 146) (.var 0)), (.bin .lt (.lit 96) (.var 0)), (.bin .le (.lit 91) (.var 0)), (.un .bnot (.bin .eq (.var 0) (.lit 150))), (.un .bnot (.bin .eq (.var 0) (.lit 151)))], (.tup [(.int .i64 (.bin (.far .add .f32) (.un (.wrap .u32) (.var 1)) (.un (.wrap .u32) (.var 2)))), (.int .i64 (.lit 0))])),
  ([(.bin .eq (.bin (.far .add .f32) (.un (.wrap .u32) (.var 1)) (.un (.wrap .u32) (.var 2))) (.lit (-1))), (.bin .eq (.bin .add (.var 0) (.lit (-146))) (.lit 0)), (.bin .le (.var 0) (.lit 151)), (.bin .le (.lit 146) (.var 0)), (.bin .lt (.lit 96) (.var 0)), (.bin .le (.lit 91) (.var 0)), (.un .bnot (.bin .eq (.var 0) (.lit 150))), (.un .bnot (.bin .eq (.var 0) (.lit 151)))], (.tup [(.int .i64 (.lit 2143289344)), (.int .i64 (.lit 0))])),
  ([(.un .bnot (.bin .eq (.bin (.far .sub .f32) (.un (.wrap .u32) (.var 1)) (.un (.wrap .u32) (.var 2))) (.lit (-1)))), (.bin .eq (.bin .add (.var 0) (.lit (-146))) (.lit 1)), (.un .bnot (.bin .eq (.bin .add (.var 0) (.lit (-146))) (.lit 0))), (.bin .le (.var 0) (.lit 151)), (.bin .le (.lit 146) (.var 0)), (.bin .lt (.lit 96) (.var 0)), (.bin .le (.lit 91) (.var 0)), (.un .bnot (.bin .eq (.var 0) (.lit 150))), (.un .bnot (.bin .eq (.var 0) (.lit 151)))], (.tup [(.int .i64 (.bin (.far .sub .f32) (.un (.wrap .u32) (.var 1)) (.un (.wrap .u32) (.var 2)))), (.int .i64 (.lit 0))])),
  ([(.bin .eq (.bin (.far .sub .f32) (.un (.wrap .u32) (.var 1)) (.un (.wrap .u32) (.var 2))) (.lit (-1))), (.bin .eq (.bin .add (.var 0) (.lit (-146))) (.lit 1)), (.un .bnot (.bin .eq (.bin .add (.var 0) (.lit (-146))) (.lit 0))), (.bin .le (.var 0) (.lit 151)), (.bin .le (.lit 146) (.var 0)), (.bin .lt (.lit 96) (.var 0)), (.bin .le (.lit 91) (.var 0)), (.un .bnot (.bin .eq (.var 0) (.lit 150))), (.un .bnot (.bin .eq (.var 0) (.lit 151)))], (.tup [(.int .i64 (.lit 2143289344)), (.int .i64 (.lit 0))])),
  ([(.un .bnot (.bin .eq (.bin (.far .mul .f32) (.un (.wrap .u32) (.var 1)) (.un (.wrap .u32) (.var 2))) (.lit (-1)))), (.bin .eq (.bin .add (.var 0) (.lit (-146))) (.lit 2)), (.un .bnot (.bin .eq (.bin .add (.var 0) (.lit (-146))) (.lit 1))), (.un .bnot (.bin .eq (.bin .add (.var 0) (.lit (-146))) (.lit 0))), (.bin .le (.var 0) (.lit 151)), (.bin .le (.lit 146) (.var 0)), (.bin .lt (.lit 96) (.var 0)), (.bin .le (.lit 91) (.var 0)), (.un .bnot (.bin .eq (.var 0) (.lit 150))), (.un .bnot (.bin .eq (.var 0) (.lit 151)))], (.tup [(.int .i64 (.bin (.far .mul .f32) (.un (.wrap .u32) (.var 1)) (.un (.wrap .u32) (.var 2)))), (.int .i64 (.lit 0))])),
  ([(.bin .eq (.bin (.far .mul .f32) (.un (.wrap .u32) (.var 1)) (.un (.wrap .u32) (.var 2))) (.lit (-1))), (.bin .eq (.bin .add (.var 0) (.lit (-146))) (.lit 2)), (.un .bnot (.bin .eq (.bin .add (.var 0) (.lit (-146))) (.lit 1))), (.un .bnot (.bin .eq (.bin .add (.var 0) (.lit (-146))) (.lit 0))), (.bin .le (.var 0) (.lit 151)), (.bin .le (.lit 146) (.var 0)), (.bin .lt (.lit 96) (.var 0)), (.bin .le (.lit 91) (.var 0)), (.un .bnot (.bin .eq (.var 0) (.lit 150))), (.un .bnot (.bin .eq (.var 0) (.lit 151)))], (.tup [(.int .i64 (.lit 2143289344)), (.int .i64 (.lit 0))])),
  ([(.un .bnot (.bin .eq (.bin (.far .quo .f32) (.un (.wrap .u32) (.var 1)) (.un (.wrap .u32) (.var 2))) (.lit (-1)))), (.bin .eq (.bin .add (.var 0) (.lit (-146))) (.lit 3)), (.un .bnot (.bin .eq (.bin .add (.var 0) (.lit (-146))) (.lit 2))), (.un .bnot (.bin .eq (.bin .add (.var 0) (.lit (-146))) (.lit 1))), (.un .bnot (.bin .eq (.bin .add (.var 0) (.lit (-146))) (.lit 0))), (.bin .le (.var 0) (.lit 151)), (.bin .le (.lit 146) (.var 0)), (.bin .lt (.lit 96) (.var 0)), (.bin .le (.lit 91) (.var 0)), (.un .bnot (.bin .eq (.var 0) (.lit 150))), (.un .bnot (.bin .eq (.var 0) (.lit 151)))], (.tup [(.int .i64 (.bin (.far .quo .f32) (.un (.wrap .u32) (.var 1)) (.un (.wrap .u32) (.var 2)))), (.int .i64 (.lit 0))])),
  ([(.bin .eq (.bin (.far .quo .f32) (.un (.wrap .u32) (.var 1)) (.un (.wrap .u32) (.var 2))) (.lit (-1))), (.bin .eq (.bin .add (.var 0) (.lit (-146))) (.lit 3)), (.un .bnot (.bin .eq (.bin .add (.var 0) (.lit (-146))) (.lit 2))), (.un .bnot (.bin .eq (.bin .add (.var 0) (.lit (-146))) (.lit 1))), (.un .bnot (.bin .eq (.bin .add (.var 0) (.lit (-146))) (.lit 0))), (.bin .le (.var 0) (.lit 151)), (.bin .le (.lit 146) (.var 0)), (.bin .lt (.lit 96) (.var 0)), (.bin .le (.lit 91) (.var 0)), (.un .bnot (.bin .eq (.var 0) (.lit 150))), (.un .bnot (.bin .eq (.var 0) (.lit 151)))], (.tup [(.int .i64 (.lit 2143289344)), (.int .i64 (.lit 0))])),
  ([(.un .bnot (.bin .eq (.bin (.ford .f32) (.un (.wrap .u32) (.var 1)) (.un (.wrap .u32) (.var 1))) (.lit 0))), (.un .bnot (.bin .eq (.bin .add (.var 0) (.lit (-146))) (.lit 3))), (.un .bnot (.bin .eq (.bin .add (.var 0) (.lit (-146))) (.lit 2))), (.un .bnot (.bin .eq (.bin .add (.var 0) (.lit (-146))) (.lit 1))), (.un .bnot (.bin .eq (.bin .add (.var 0) (.lit (-146))) (.lit 0))), (.bin .le (.var 0) (.lit 151)), (.bin .le (.lit 146) (.var 0)), (.bin .lt (.lit 96) (.var 0)), (.bin .le (.lit 91) (.var 0)), (.un .bnot (.bin .eq (.var 0) (.lit 150))), (.un .bnot (.bin .eq (.var 0) (.lit 151)))], (.tup [(.int .i64 (.lit 2143289344)), (.int .i64 (.lit 0))])),
  ([(.un .bnot (.bin .eq (.bin (.ford .f32) (.un (.wrap .u32) (.var 2)) (.un (.wrap .u32) (.var 2))) (.lit 0))), (.bin .eq (.bin (.ford .f32) (.un (.wrap .u32) (.var 1)) (.un (.wrap .u32) (.var 1))) (.lit 0)), (.un .bnot (.bin .eq (.bin .add (.var 0) (.lit (-146))) (.lit 3))), (.un .bnot (.bin .eq (.bin .add (.var 0) (.lit (-146))) (.lit 2))), (.un .bnot (.bin .eq (.bin .add (.var 0) (.lit (-146))) (.lit 1))), (.un .bnot (.bin .eq (.bin .add (.var 0) (.lit (-146))) (.lit 0))), (.bin .le (.var 0) (.lit 151)), (.bin .le (.lit 146) (.var 0)), (.bin .lt (.lit 96) (.var 0)), (.bin .le (.lit 91) (.var 0)), (.un .bnot (.bin .eq (.var 0) (.lit 150))), (.un .bnot (.bin .eq (.var 0) (.lit 151)))], (.tup [(.int .i64 (.lit 2143289344)), (.int .i64 (.lit 0))])),
  ([(.un .bnot (.bin .eq (.un (.fconv .f64 .f32) (.bin (.fpick true) (.un (.fconv .f32 .f64) (.un (.wrap .u32) (.var 1))) (.un (.fconv .f32 .f64) (.un (.wrap .u32) (.var 2))))) (.lit (-2)))), (.bin .eq (.bin .add (.var 0) (.lit (-146))) (.lit 4)), (.bin .eq (.bin (.ford .f32) (.un (.wrap .u32) (.var 2)) (.un (.wrap .u32) (.var 2))) (.lit 0)), (.bin .eq (.bin (.ford .f32) (.un (.wrap .u32) (.var 1)) (.un (.wrap .u32) (.var 1))) (.lit 0)), (.un .bnot (.bin .eq (.bin .add (.var 0) (.lit (-146))) (.lit 3))), (.un .bnot (.bin .eq (.bin .add (.var 0) (.lit (-146))) (.lit 2))), (.un .bnot (.bin .eq (.bin .add (.var 0) (.lit (-146))) (.lit 1))), (.un .bnot (.bin .eq (.bin .add (.var 0) (.lit (-146))) (.lit 0))), (.bin .le (.var 0) (.lit 151)), (.bin .le (.lit 146) (.var 0)), (.bin .lt (.lit 96) (.var 0)), (.bin .le (.lit 91) (.var 0)), (.un .bnot (.bin .eq (.var 0) (.lit 150))), (.un .bnot (.bin .eq (.var 0) (.lit 151)))], (.tup [(.int .i64 (.un (.fconv .f64 .f32) (.bin (.fpick true) (.un (.fconv .f32 .f64) (.un (.wrap .u32) (.var 1))) (.un (.fconv .f32 .f64) (.un (.wrap .u32) (.var 2)))))), (.int .i64 (.lit 0))])),
  ([(.un .bnot (.bin .eq (.bin (.ford .f32) (.var 3) (.var 3)) (.lit 0))), (.bin .eq (.un (.fconv .f64 .f32) (.bin (.fpick true) (.un (.fconv .f32 .f64) (.un (.wrap .u32) (.var 1))) (.un (.fconv .f32 .f64) (.un (.wrap .u32) (.var 2))))) (.lit (-2))), (.bin .eq (.bin .add (.var 0) (.lit (-146))) (.lit 4)), (.bin .eq (.bin (.ford .f32) (.un (.wrap .u32) (.var 2)) (.un (.wrap .u32) (.var 2))) (.lit 0)), (.bin .eq (.bin (.ford .f32) (.un (.wrap .u32) (.var 1)) (.un (.wrap .u32) (.var 1))) (.lit 0)), (.un .bnot (.bin .eq (.bin .add (.var 0) (.lit (-146))) (.lit 3))), (.un .bnot (.bin .eq (.bin .add (.var 0) (.lit (-146))) (.lit 2))), (.un .bnot (.bin .eq (.bin .add (.var 0) (.lit (-146))) (.lit 1))), (.un .bnot (.bin .eq (.bin .add (.var 0) (.lit (-146))) (.lit 0))), (.bin .le (.var 0) (.lit 151)), (.bin .le (.lit 146) (.var 0)), (.bin .lt (.lit 96) (.var 0)), (.bin .le (.lit 91) (.var 0)), (.un .bnot (.bin .eq (.var 0) (.lit 150))), (.un .bnot (.bin .eq (.var 0) (.lit 151)))], (.tup [(.int .i64 (.lit 2143289344)), (.int .i64 (.lit 0))])),
  ([(.bin .eq (.bin (.ford .f32) (.var 3) (.var 3)) (.lit 0)), (.bin .eq (.un (.fconv .f64 .f32) (.bin (.fpick true) (.un (.fconv .f32 .f64) (.un (.wrap .u32) (.var 1))) (.un (.fconv .f32 .f64) (.un (.wrap .u32) (.var 2))))) (.lit (-2))), (.bin .eq (.bin .add (.var 0) (.lit (-146))) (.lit 4)), (.bin .eq (.bin (.ford .f32) (.un (.wrap .u32) (.var 2)) (.un (.wrap .u32) (.var 2))) (.lit 0)), (.bin .eq (.bin (.ford .f32) (.un (.wrap .u32) (.var 1)) (.un (.wrap .u32) (.var 1))) (.lit 0)), (.un .bnot (.bin .eq (.bin .add (.var 0) (.lit (-146))) (.lit 3))), (.un .bnot (.bin .eq (.bin .add (.var 0) (.lit (-146))) (.lit 2))), (.un .bnot (.bin .eq (.bin .add (.var 0) (.lit (-146))) (.lit 1))), (.un .bnot (.bin .eq (.bin .add (.var 0) (.lit (-146))) (.lit 0))), (.bin .le (.var 0) (.lit 151)), (.bin .le (.lit 146) (.var 0)), (.bin .lt (.lit 96) (.var 0)), (.bin .le (.lit 91) (.var 0)), (.un .bnot (.bin .eq (.var 0) (.lit 150))), (.un .bnot (.bin .eq (.var 0) (.lit 151)))], (.tup [(.int .i64 (.var 3)), (.int .i64 (.lit 0))])),
  ([(.un .bnot (.bin .eq (.un (.fconv .f64 .f32) (.bin (.fpick false) (.un (.fconv .f32 .f64) (.un (.wrap .u32) (.var 1))) (.un (.fconv .f32 .f64) (.un (.wrap .u32) (.var 2))))) (.lit (-2)))), (.un .bnot (.bin .eq (.bin .add (.var 0) (.lit (-146))) (.lit 4))), (.bin .eq (.bin (.ford .f32) (.un (.wrap .u32) (.var 2)) (.un (.wrap .u32) (.var 2))) (.lit 0)), (.bin .eq (.bin (.ford .f32) (.un (.wrap .u32) (.var 1)) (.un (.wrap .u32) (.var 1))) (.lit 0)), (.un .bnot (.bin .eq (.bin .add (.var 0) (.lit (-146))) (.lit 3))), (.un .bnot (.bin .eq (.bin .add (.var 0) (.lit (-146))) (.lit 2))), (.un .bnot (.bin .eq (.bin .add (.var 0) (.lit (-146))) (.lit 1))), (.un .bnot (.bin .eq (.bin .add (.var 0) (.lit (-146))) (.lit 0))), (.bin .le (.var 0) (.lit 151)), (.bin .le (.lit 146) (.var 0)), (.bin .lt (.lit 96) (.var 0)), (.bin .le (.lit 91) (.var 0)), (.un .bnot (.bin .eq (.var 0) (.lit 150))), (.un .bnot (.bin .eq (.var 0) (.lit 151)))], (.tup [(.int .i64 (.un (.fconv .f64 .f32) (.bin (.fpick false) (.un (.fconv .f32 .f64) (.un (.wrap .u32) (.var 1))) (.un (.fconv .f32 .f64) (.un (.wrap .u32) (.var 2)))))), (.int .i64 (.lit 0))])),
  ([(.un .bnot (.bin .eq (.bin (.ford .f32) (.var 3) (.var 3)) (.lit 0))), (.bin .eq (.un (.fconv .f64 .f32) (.bin (.fpick false) (.un (.fconv .f32 .f64) (.un (.wrap .u32) (.var 1))) (.un (.fconv .f32 .f64) (.un (.wrap .u32) (.var 2))))) (.lit (-2))), (.un .bnot (.bin .eq (.bin .add (.var 0) (.lit (-146))) (.lit 4))), (.bin .eq (.bin (.ford .f32) (.un (.wrap .u32) (.var 2)) (.un (.wrap .u32) (.var 2))) (.lit 0)), (.bin .eq (.bin (.ford .f32) (.un (.wrap .u32) (.var 1)) (.un (.wrap .u32) (.var 1))) (.lit 0)), (.un .bnot (.bin .eq (.bin .add (.var 0) (.lit (-146))) (.lit 3))), (.un .bnot (.bin .eq (.bin .add (.var 0) (.lit (-146))) (.lit 2))), (.un .bnot (.bin .eq (.bin .add (.var 0) (.lit (-146))) (.lit 1))), (.un .bnot (.bin .eq (.bin .add (.var 0) (.lit (-146))) (.lit 0))), (.bin .le (.var 0) (.lit 151)), (.bin .le (.lit 146) (.var 0)), (.bin .lt (.lit 96) (.var 0)), (.bin .le (.lit 91) (.var 0)), (.un .bnot (.bin .eq (.var 0) (.lit 150))), (.un .bnot (.bin .eq (.var 0) (.lit 151)))], (.tup [(.int .i64 (.lit 2143289344)), (.int .i64 (.lit 0))])),
  ([(.bin .eq (.bin (.ford .f32) (.var 3) (.var 3)) (.lit 0)), (.bin .eq (.un (.fconv .f64 .f32) (.bin (.fpick false) (.un (.fconv .f32 .f64) (.un (.wrap .u32) (.var 1))) (.un (.fconv .f32 .f64) (.un (.wrap .u32) (.var 2))))) (.lit (-2))), (.un .bnot (.bin .eq (.bin .add (.var 0) (.lit (-146))) (.lit 4))), (.bin .eq (.bin (.ford .f32) (.un (.wrap .u32) (.var 2)) (.un (.wrap .u32) (.var 2))) (.lit 0)), (.bin .eq (.bin (.ford .f32) (.un (.wrap .u32) (.var 1)) (.un (.wrap .u32) (.var 1))) (.lit 0)), (.un .bnot (.bin .eq (.bin .add (.var 0) (.lit (-146))) (.lit 3))), (.un .bnot (.bin .eq (.bin .add (.var 0) (.lit (-146))) (.lit 2))), (.un .bnot (.bin .eq (.bin .add (.var 0) (.lit (-146))) (.lit 1))), (.un .bnot (.bin .eq (.bin .add (.var 0) (.lit (-146))) (.lit 0))), (.bin .le (.var 0) (.lit 151)), (.bin .le (.lit 146) (.var 0)), (.bin .lt (.lit 96) (.var 0)), (.bin .le (.lit 91) (.var 0)), (.un .bnot (.bin .eq (.var 0) (.lit 150))), (.un .bnot (.bin .eq (.var 0) (.lit 151)))], (.tup [(.int .i64 (.var 3)), (.int .i64 (.lit 0))])),
  ([(.bin .eq (.var 0) (.lit 152)), (.bin .lt (.lit 151) (.var 0)), (.bin .le (.lit 146) (.var 0)), (.bin .lt (.lit 96) (.var 0)), (.bin .le (.lit 91) (.var 0)), (.un .bnot (.bin .eq (.var 0) (.lit 150))), (.un .bnot (.bin .eq (.var 0) (.lit 151)))], (.tup [(.int .i64 (.un (.wrap .u32) (.bin (.bits .or .i64) (.bin (.bits .andNot .i64) (.var 1) (.lit 2147483648)) (.bin (.bits .and .i64) (.var 2) (.lit 2147483648))))), (.int .i64 (.lit 0))])),
  ([(.un .bnot (.bin .eq (.var 0) (.lit 152))), (.bin .lt (.lit 151) (.var 0)), (.bin .le (.lit 146) (.var 0)), (.bin .lt (.lit 96) (.var 0)), (.bin .le (.lit 91) (.var 0)), (.un .bnot (.bin .eq (.var 0) (.lit 150))), (.un .bnot (.bin .eq (.var 0) (.lit 151)))], (.tup [(.int .i64 (.lit 0)), (.int .i64 (.lit 400))])),
  ([(.bin .lt (.var 0) (.lit 146)), (.bin .lt (.lit 96) (.var 0)), (.bin .le (.lit 91) (.var 0)), (.un .bnot (.bin .eq (.var 0) (.lit 150))), (.un .bnot (.bin .eq (.var 0) (.lit 151)))], (.tup [(.int .i64 (.lit 0)), (.int .i64 (.lit 400))])),
  ([(.bin .lt (.var 0) (.lit 91)), (.un .bnot (.bin .eq (.var 0) (.lit 150))), (.un .bnot (.bin .eq (.var 0) (.lit 151)))], (.tup [(.int .i64 (.lit 0)), (.int .i64 (.lit 400))]))]
set_option maxRecDepth 100000 in
theorem binRan : runOf Try.prog (xOracle xts) noLoops (bodies fns) [] 4000 binS32.f binS32.ks binS32.pre = some binR := by kernel_rfl
def awR : List Leaf := [
  ([], (.bool (.lit 1)))]
set_option maxRecDepth 100000 in
theorem awRan : runOf Try.prog (xOracle xts) noLoops (bodies fns) [] 4000 aw32.f aw32.ks aw32.pre = some awR := by kernel_rfl
end Go.Proofs.Ytnodelimomljbaa.RunOp32

/- The contract of f32n.Bin, in numbers alone. No condition. -/
namespace Go.Proofs.Ytnodelimomljbaa.PlainOp32
open Go Go.Sx Go.Sx.Flt Go.Proofs.Ytnodelimomljbaa.RunOp32

theorem unOne2 (a b : Option IntKind × E) (vs : List V) : unOne [a, b].length (.tup vs) = vs := rfl
theorem binV_den (ρ : Env) : binV32.den ρ = (selF binL32 (.lit 0) (ρ.v 0)).den ρ := den_sel _ _ _
theorem binE_den (ρ : Env) : binE32.den ρ = (selF ([91, 92, 93, 94, 95, 96, 146, 147, 148, 149, 152].map fun k => (k, .lit 0)) (.lit 400) (ρ.v 0)).den ρ := den_sel _ _ _
set_option linter.unusedSimpArgs false
set_option linter.unusedVariables false
theorem bin_plain (u : Nat → Int) (hk : KindOk u 0 binS32.ks) : Keeps ⟨u, fnF⟩ binS32.res binR := by
  simp only [binS32, binR, Keeps, chain, unOne2, SameL, E.prop, E.den, Bi.den, Un.den, true_and, and_true, binV_den, binE_den]
  refine ⟨?_, ?_, ?_, ?_, ?_, ?_, ?_, ?_, ?_, ?_, ?_, ?_, ?_, ?_, ?_, ?_, ?_, ?_, ?_, ?_, ?_, ?_, ?_, ?_, ?_, ?_, ?_, ?_, ?_, ?_, ?_, ?_⟩
  · intros
    have h : u 0 = 91 := by omega
    have e1 : selF binL32 (.lit 0) 91 = tr (bi .eq o32 (.lit 0)) := rfl
    have e2 : selF ([91, 92, 93, 94, 95, 96, 146, 147, 148, 149, 152].map fun k => (k, .lit 0)) (.lit 400) 91 = .lit 0 := rfl
    simp only [h, e1, e2]
    clear e1 e2
    simp_all [can32, nan32, x32, y32, o32, sign32, tr, bi, no, un, Flt.u32, v, E.den, Bi.den, Un.den, b2i]
    all_goals (try (have hx := Int.not_le.2 (by assumption : (1 : Int) < fordI _ _ _); simp [hx]))
  · intros
    have h : u 0 = 91 := by omega
    have e1 : selF binL32 (.lit 0) 91 = tr (bi .eq o32 (.lit 0)) := rfl
    have e2 : selF ([91, 92, 93, 94, 95, 96, 146, 147, 148, 149, 152].map fun k => (k, .lit 0)) (.lit 400) 91 = .lit 0 := rfl
    simp only [h, e1, e2]
    clear e1 e2
    simp_all [can32, nan32, x32, y32, o32, sign32, tr, bi, no, un, Flt.u32, v, E.den, Bi.den, Un.den, b2i]
    all_goals (try (have hx := Int.not_le.2 (by assumption : (1 : Int) < fordI _ _ _); simp [hx]))
  · intros
    have h : u 0 = 92 := by omega
    have e1 : selF binL32 (.lit 0) 92 = tr (no (bi .eq o32 (.lit 0))) := rfl
    have e2 : selF ([91, 92, 93, 94, 95, 96, 146, 147, 148, 149, 152].map fun k => (k, .lit 0)) (.lit 400) 92 = .lit 0 := rfl
    simp only [h, e1, e2]
    clear e1 e2
    simp_all [can32, nan32, x32, y32, o32, sign32, tr, bi, no, un, Flt.u32, v, E.den, Bi.den, Un.den, b2i]
    all_goals (try (have hx := Int.not_le.2 (by assumption : (1 : Int) < fordI _ _ _); simp [hx]))
  · intros
    have h : u 0 = 92 := by omega
    have e1 : selF binL32 (.lit 0) 92 = tr (no (bi .eq o32 (.lit 0))) := rfl
    have e2 : selF ([91, 92, 93, 94, 95, 96, 146, 147, 148, 149, 152].map fun k => (k, .lit 0)) (.lit 400) 92 = .lit 0 := rfl
    simp only [h, e1, e2]
    clear e1 e2
    simp_all [can32, nan32, x32, y32, o32, sign32, tr, bi, no, un, Flt.u32, v, E.den, Bi.den, Un.den, b2i]
    all_goals (try (have hx := Int.not_le.2 (by assumption : (1 : Int) < fordI _ _ _); simp [hx]))
  · intros
    have h : u 0 = 93 := by omega
    have e1 : selF binL32 (.lit 0) 93 = tr (bi .eq o32 (.lit 1)) := rfl
    have e2 : selF ([91, 92, 93, 94, 95, 96, 146, 147, 148, 149, 152].map fun k => (k, .lit 0)) (.lit 400) 93 = .lit 0 := rfl
    simp only [h, e1, e2]
    clear e1 e2
    simp_all [can32, nan32, x32, y32, o32, sign32, tr, bi, no, un, Flt.u32, v, E.den, Bi.den, Un.den, b2i]
    all_goals (try (have hx := Int.not_le.2 (by assumption : (1 : Int) < fordI _ _ _); simp [hx]))
  · intros
    have h : u 0 = 93 := by omega
    have e1 : selF binL32 (.lit 0) 93 = tr (bi .eq o32 (.lit 1)) := rfl
    have e2 : selF ([91, 92, 93, 94, 95, 96, 146, 147, 148, 149, 152].map fun k => (k, .lit 0)) (.lit 400) 93 = .lit 0 := rfl
    simp only [h, e1, e2]
    clear e1 e2
    simp_all [can32, nan32, x32, y32, o32, sign32, tr, bi, no, un, Flt.u32, v, E.den, Bi.den, Un.den, b2i]
    all_goals (try (have hx := Int.not_le.2 (by assumption : (1 : Int) < fordI _ _ _); simp [hx]))
  · intros
    have h : u 0 = 94 := by omega
    have e1 : selF binL32 (.lit 0) 94 = tr (bi .eq o32 (.lit 2)) := rfl
    have e2 : selF ([91, 92, 93, 94, 95, 96, 146, 147, 148, 149, 152].map fun k => (k, .lit 0)) (.lit 400) 94 = .lit 0 := rfl
    simp only [h, e1, e2]
    clear e1 e2
    simp_all [can32, nan32, x32, y32, o32, sign32, tr, bi, no, un, Flt.u32, v, E.den, Bi.den, Un.den, b2i]
    all_goals (try (have hx := Int.not_le.2 (by assumption : (1 : Int) < fordI _ _ _); simp [hx]))
  · intros
    have h : u 0 = 94 := by omega
    have e1 : selF binL32 (.lit 0) 94 = tr (bi .eq o32 (.lit 2)) := rfl
    have e2 : selF ([91, 92, 93, 94, 95, 96, 146, 147, 148, 149, 152].map fun k => (k, .lit 0)) (.lit 400) 94 = .lit 0 := rfl
    simp only [h, e1, e2]
    clear e1 e2
    simp_all [can32, nan32, x32, y32, o32, sign32, tr, bi, no, un, Flt.u32, v, E.den, Bi.den, Un.den, b2i]
    all_goals (try (have hx := Int.not_le.2 (by assumption : (1 : Int) < fordI _ _ _); simp [hx]))
  · intros
    have h : u 0 = 95 := by omega
    have e1 : selF binL32 (.lit 0) 95 = tr (bi .le o32 (.lit 1)) := rfl
    have e2 : selF ([91, 92, 93, 94, 95, 96, 146, 147, 148, 149, 152].map fun k => (k, .lit 0)) (.lit 400) 95 = .lit 0 := rfl
    simp only [h, e1, e2]
    clear e1 e2
    simp_all [can32, nan32, x32, y32, o32, sign32, tr, bi, no, un, Flt.u32, v, E.den, Bi.den, Un.den, b2i]
    all_goals (try (have hx := Int.not_le.2 (by assumption : (1 : Int) < fordI _ _ _); simp [hx]))
  · intros
    have h : u 0 = 95 := by omega
    have e1 : selF binL32 (.lit 0) 95 = tr (bi .le o32 (.lit 1)) := rfl
    have e2 : selF ([91, 92, 93, 94, 95, 96, 146, 147, 148, 149, 152].map fun k => (k, .lit 0)) (.lit 400) 95 = .lit 0 := rfl
    simp only [h, e1, e2]
    clear e1 e2
    simp_all [can32, nan32, x32, y32, o32, sign32, tr, bi, no, un, Flt.u32, v, E.den, Bi.den, Un.den, b2i]
    all_goals (try (have hx := Int.not_le.2 (by assumption : (1 : Int) < fordI _ _ _); simp [hx]))
  · intros
    have h : u 0 = 96 := by omega
    have e1 : selF binL32 (.lit 0) 96 = tr (bi .or (bi .eq o32 (.lit 2)) (bi .eq o32 (.lit 0))) := rfl
    have e2 : selF ([91, 92, 93, 94, 95, 96, 146, 147, 148, 149, 152].map fun k => (k, .lit 0)) (.lit 400) 96 = .lit 0 := rfl
    simp only [h, e1, e2]
    clear e1 e2
    simp_all [can32, nan32, x32, y32, o32, sign32, tr, bi, no, un, Flt.u32, v, E.den, Bi.den, Un.den, b2i]
    all_goals (try (have hx := Int.not_le.2 (by assumption : (1 : Int) < fordI _ _ _); simp [hx]))
  · intros
    have h : u 0 = 96 := by omega
    have e1 : selF binL32 (.lit 0) 96 = tr (bi .or (bi .eq o32 (.lit 2)) (bi .eq o32 (.lit 0))) := rfl
    have e2 : selF ([91, 92, 93, 94, 95, 96, 146, 147, 148, 149, 152].map fun k => (k, .lit 0)) (.lit 400) 96 = .lit 0 := rfl
    simp only [h, e1, e2]
    clear e1 e2
    simp_all [can32, nan32, x32, y32, o32, sign32, tr, bi, no, un, Flt.u32, v, E.den, Bi.den, Un.den, b2i]
    all_goals (try (have hx := Int.not_le.2 (by assumption : (1 : Int) < fordI _ _ _); simp [hx]))
  · intros
    have h : u 0 = 146 := by omega
    have e1 : selF binL32 (.lit 0) 146 = can32 (bi (.far .add .f32) x32 y32) := rfl
    have e2 : selF ([91, 92, 93, 94, 95, 96, 146, 147, 148, 149, 152].map fun k => (k, .lit 0)) (.lit 400) 146 = .lit 0 := rfl
    simp only [h, e1, e2]
    clear e1 e2
    simp_all [can32, nan32, x32, y32, o32, sign32, tr, bi, no, un, Flt.u32, v, E.den, Bi.den, Un.den, b2i]
    all_goals (try (have hx := Int.not_le.2 (by assumption : (1 : Int) < fordI _ _ _); simp [hx]))
  · intros
    have h : u 0 = 146 := by omega
    have e1 : selF binL32 (.lit 0) 146 = can32 (bi (.far .add .f32) x32 y32) := rfl
    have e2 : selF ([91, 92, 93, 94, 95, 96, 146, 147, 148, 149, 152].map fun k => (k, .lit 0)) (.lit 400) 146 = .lit 0 := rfl
    simp only [h, e1, e2]
    clear e1 e2
    simp_all [can32, nan32, x32, y32, o32, sign32, tr, bi, no, un, Flt.u32, v, E.den, Bi.den, Un.den, b2i]
    all_goals (try (have hx := Int.not_le.2 (by assumption : (1 : Int) < fordI _ _ _); simp [hx]))
  · intros
    have h : u 0 = 147 := by omega
    have e1 : selF binL32 (.lit 0) 147 = can32 (bi (.far .sub .f32) x32 y32) := rfl
    have e2 : selF ([91, 92, 93, 94, 95, 96, 146, 147, 148, 149, 152].map fun k => (k, .lit 0)) (.lit 400) 147 = .lit 0 := rfl
    simp only [h, e1, e2]
    clear e1 e2
    simp_all [can32, nan32, x32, y32, o32, sign32, tr, bi, no, un, Flt.u32, v, E.den, Bi.den, Un.den, b2i]
    all_goals (try (have hx := Int.not_le.2 (by assumption : (1 : Int) < fordI _ _ _); simp [hx]))
  · intros
    have h : u 0 = 147 := by omega
    have e1 : selF binL32 (.lit 0) 147 = can32 (bi (.far .sub .f32) x32 y32) := rfl
    have e2 : selF ([91, 92, 93, 94, 95, 96, 146, 147, 148, 149, 152].map fun k => (k, .lit 0)) (.lit 400) 147 = .lit 0 := rfl
    simp only [h, e1, e2]
    clear e1 e2
    simp_all [can32, nan32, x32, y32, o32, sign32, tr, bi, no, un, Flt.u32, v, E.den, Bi.den, Un.den, b2i]
    all_goals (try (have hx := Int.not_le.2 (by assumption : (1 : Int) < fordI _ _ _); simp [hx]))
  · intros
    have h : u 0 = 148 := by omega
    have e1 : selF binL32 (.lit 0) 148 = can32 (bi (.far .mul .f32) x32 y32) := rfl
    have e2 : selF ([91, 92, 93, 94, 95, 96, 146, 147, 148, 149, 152].map fun k => (k, .lit 0)) (.lit 400) 148 = .lit 0 := rfl
    simp only [h, e1, e2]
    clear e1 e2
    simp_all [can32, nan32, x32, y32, o32, sign32, tr, bi, no, un, Flt.u32, v, E.den, Bi.den, Un.den, b2i]
    all_goals (try (have hx := Int.not_le.2 (by assumption : (1 : Int) < fordI _ _ _); simp [hx]))
  · intros
    have h : u 0 = 148 := by omega
    have e1 : selF binL32 (.lit 0) 148 = can32 (bi (.far .mul .f32) x32 y32) := rfl
    have e2 : selF ([91, 92, 93, 94, 95, 96, 146, 147, 148, 149, 152].map fun k => (k, .lit 0)) (.lit 400) 148 = .lit 0 := rfl
    simp only [h, e1, e2]
    clear e1 e2
    simp_all [can32, nan32, x32, y32, o32, sign32, tr, bi, no, un, Flt.u32, v, E.den, Bi.den, Un.den, b2i]
    all_goals (try (have hx := Int.not_le.2 (by assumption : (1 : Int) < fordI _ _ _); simp [hx]))
  · intros
    have h : u 0 = 149 := by omega
    have e1 : selF binL32 (.lit 0) 149 = can32 (bi (.far .quo .f32) x32 y32) := rfl
    have e2 : selF ([91, 92, 93, 94, 95, 96, 146, 147, 148, 149, 152].map fun k => (k, .lit 0)) (.lit 400) 149 = .lit 0 := rfl
    simp only [h, e1, e2]
    clear e1 e2
    simp_all [can32, nan32, x32, y32, o32, sign32, tr, bi, no, un, Flt.u32, v, E.den, Bi.den, Un.den, b2i]
    all_goals (try (have hx := Int.not_le.2 (by assumption : (1 : Int) < fordI _ _ _); simp [hx]))
  · intros
    have h : u 0 = 149 := by omega
    have e1 : selF binL32 (.lit 0) 149 = can32 (bi (.far .quo .f32) x32 y32) := rfl
    have e2 : selF ([91, 92, 93, 94, 95, 96, 146, 147, 148, 149, 152].map fun k => (k, .lit 0)) (.lit 400) 149 = .lit 0 := rfl
    simp only [h, e1, e2]
    clear e1 e2
    simp_all [can32, nan32, x32, y32, o32, sign32, tr, bi, no, un, Flt.u32, v, E.den, Bi.den, Un.den, b2i]
    all_goals (try (have hx := Int.not_le.2 (by assumption : (1 : Int) < fordI _ _ _); simp [hx]))
  · intros
    exfalso; omega
  · intros
    exfalso; omega
  · intros
    exfalso; omega
  · intros
    exfalso; omega
  · intros
    exfalso; omega
  · intros
    exfalso; omega
  · intros
    exfalso; omega
  · intros
    exfalso; omega
  · intros
    have h : u 0 = 152 := by omega
    have e1 : selF binL32 (.lit 0) 152 = u32 (bi (.bits .or .i64) (bi (.bits .andNot .i64) (v 1) sign32) (bi (.bits .and .i64) (v 2) sign32)) := rfl
    have e2 : selF ([91, 92, 93, 94, 95, 96, 146, 147, 148, 149, 152].map fun k => (k, .lit 0)) (.lit 400) 152 = .lit 0 := rfl
    simp only [h, e1, e2]
    clear e1 e2
    simp_all [can32, nan32, x32, y32, o32, sign32, tr, bi, no, un, Flt.u32, v, E.den, Bi.den, Un.den, b2i]
    all_goals (try (have hx := Int.not_le.2 (by assumption : (1 : Int) < fordI _ _ _); simp [hx]))
  · intros
    rw [selF_none _ _ _ (by intro p hp; simp [binL32] at hp; omega), selF_none _ _ _ (by intro p hp; simp at hp; omega)]
    exact ⟨rfl, rfl⟩
  · intros
    rw [selF_none _ _ _ (by intro p hp; simp [binL32] at hp; omega), selF_none _ _ _ (by intro p hp; simp at hp; omega)]
    exact ⟨rfl, rfl⟩
  · intros
    rw [selF_none _ _ _ (by intro p hp; simp [binL32] at hp; omega), selF_none _ _ _ (by intro p hp; simp at hp; omega)]
    exact ⟨rfl, rfl⟩
theorem aw_plain (u : Nat → Int) : Keeps ⟨u, fnF⟩ aw32.res awR := by simp [aw32, awR, Keeps, chain, SameL, unOne]
end Go.Proofs.Ytnodelimomljbaa.PlainOp32


/- The contract of f32n.Bin holds. No condition. -/
namespace Go.Proofs.Ytnodelimomljbaa.Op32
open Go Go.Sx Go.Sx.Flt Go.Proofs.Ytnodelimomljbaa.RunOp32 Go.Proofs.Ytnodelimomljbaa.PlainOp32

theorem x_ok (w : World) : OracleOk Try.prog ⟨w, fnF⟩ (xOracle xts) := xOracle_ok xtsOk
theorem bin_ok (w : World) : binS32.Ok Try.prog ⟨w, fnF⟩ := spec_run Try.call37 (fun w' _ => x_ok w') (fun _ _ => noLoops_ok _ _ _) fnsKnown (noTabs w) binRan rfl (fun _ _ _ _ hp => by cases hp) fun u hk _ => bin_plain u hk
theorem aw_ok (w : World) : aw32.Ok Try.prog ⟨w, fnF⟩ := spec_run Try.call39 (fun w' _ => x_ok w') (fun _ _ => noLoops_ok _ _ _) fnsKnown (noTabs w) awRan rfl (fun _ _ _ _ hp => by cases hp) fun u _ _ => aw_plain u
theorem ops_ok (w : World) : OracleOk Try.prog ⟨w, fnF⟩ (orcs (xOracle xts) (specOracle specs32)) := orcs_ok (x_ok w) (specOracle_ok fun sp h => by
  simp only [specs32, List.mem_cons, List.not_mem_nil, or_false] at h
  rcases h with rfl | rfl
  · exact bin_ok w
  · exact aw_ok w)
end Go.Proofs.Ytnodelimomljbaa.Op32

/- The whole contract of f32n.Bin holds. No condition. -/
namespace Go.Proofs.Ytnodelimomljbaa.OpT
open Go Go.Sx Go.Sx.Flt Go.Proofs.Ytnodelimomljbaa.RunOpT Go.Proofs.Ytnodelimomljbaa.PlainOpT

theorem bin_ok (w : World) : binT32.Ok Try.prog ⟨w, fnF⟩ := spec_run Try.call37 (fun w' _ => Op32.x_ok w') (fun _ _ => noLoops_ok _ _ _) fnsKnown (noTabs w) binRan rfl (fun u _ _ p hp => by
  simp only [binT32, List.mem_singleton] at hp
  subst hp
  have h := bT u
  have e : binTV32.den ⟨u, fnF⟩ = (selF binT32L (.lit 0) (u 0)).den ⟨u, fnF⟩ := den_sel _ _ _
  rw [← e] at h
  exact ⟨fun _ h' => by cases h'; exact h.1, fun _ h' => by cases h'; exact h.2⟩) fun u hk _ => bin_plain u hk
theorem ops_ok (w : World) : OracleOk Try.prog ⟨w, fnF⟩ (orcs (xOracle xts) (specOracle specsT32)) := orcs_ok (Op32.x_ok w) (specOracle_ok fun sp h => by
  simp only [specsT32, List.mem_cons, List.not_mem_nil, or_false] at h
  rcases h with rfl | rfl
  · exact bin_ok w
  · exact Op32.aw_ok w)
end Go.Proofs.Ytnodelimomljbaa.OpT

/- The contract of f32n.Un holds. No condition. -/
namespace Go.Proofs.Ytnodelimomljbaa.OpU
open Go Go.Sx Go.Sx.Flt Go.Proofs.Ytnodelimomljbaa.RunOpU Go.Proofs.Ytnodelimomljbaa.PlainOpU

theorem un_ok (w : World) : unT32.Ok Try.prog ⟨w, fnF⟩ := spec_run Try.call35 (fun w' _ => Op32.x_ok w') (fun _ _ => noLoops_ok _ _ _) fnsKnown (noTabs w) unRan rfl (fun u _ _ p hp => by
  simp only [unT32, List.mem_singleton] at hp
  subst hp
  have h := uT u
  have e : unTV32.den ⟨u, fnF⟩ = (selF unT32L (.lit 0) (u 0)).den ⟨u, fnF⟩ := den_sel _ _ _
  rw [← e] at h
  exact ⟨fun _ h' => by cases h'; exact h.1, fun _ h' => by cases h'; exact h.2⟩) fun u hk _ => un_plain u hk
theorem ops_ok (w : World) : OracleOk Try.prog ⟨w, fnF⟩ (orcs (xOracle xts) (specOracle specsU32)) := orcs_ok (Op32.x_ok w) (specOracle_ok fun sp h => by
  simp only [specsU32, List.mem_cons, List.not_mem_nil, or_false] at h
  rcases h with rfl | rfl | rfl
  · exact un_ok w
  · exact OpT.bin_ok w
  · exact Op32.aw_ok w)
end Go.Proofs.Ytnodelimomljbaa.OpU

/- The contracts of the reference's single floats hold, up to its exported operations; those of the program, with roots. No condition. -/
namespace Go.Proofs.Ytnodelimomljbaa.RefB3
open Go Go.Sx Go.Sx.Flt Go.Sx.Ref Go.Proofs.Ytnodelimomljbaa.RefL Go.Proofs.Ytnodelimomljbaa.RunRefA3 Go.Proofs.Ytnodelimomljbaa.PlainRefA3 Go.Proofs.Ytnodelimomljbaa.PlainRefB3 Go.Proofs.Ytnodelimomljbaa.RunRefB3 Go.Proofs.Ytnodelimomljbaa.PlainRefD3 Go.Proofs.Ytnodelimomljbaa.PlainRefE3
theorem sgn_ok3 (w : World) : sgnD3.Ok Try.prog ⟨w, fnG⟩ := gspec_run Try.call77 (fun _ _ => noOracle_ok _ _) (fun _ _ => noLoops_ok _ _ _) fnsKnown (noTabs w) rfl sgnD3Ran rfl (fun _ _ _ => noBd rfl _) sgn_plain
theorem bias_ok3 (w : World) : biasD3.Ok Try.prog ⟨w, fnG⟩ := gspec_run Try.call113 (fun _ _ => noOracle_ok _ _) (fun _ _ => noLoops_ok _ _ _) fnsKnown (noTabs w) rfl biasD3Ran rfl (fun _ _ _ => noBd rfl _) bias_plain
theorem least_ok3 (w : World) : leastD3.Ok Try.prog ⟨w, fnG⟩ := gspec_run Try.call105 (fun w' _ => gone_ok (bias_ok3 w')) (fun _ _ => noLoops_ok _ _ _) fnsKnown (noTabs w) rfl leastD3Ran rfl (fun _ _ _ => noBd rfl _) least_plain
theorem top_ok3 (w : World) : topD3.Ok Try.prog ⟨w, fnG⟩ := gspec_run Try.call104 (fun _ _ => noOracle_ok _ _) (fun _ _ => noLoops_ok _ _ _) fnsKnown (noTabs w) rfl topD3Ran rfl (fun _ _ _ => noBd rfl _) top_plain
theorem nan_ok3 (w : World) : nanD3.Ok Try.prog ⟨w, fnG⟩ := gspec_run Try.call98 (fun w' _ => gone_ok (top_ok3 w')) (fun _ _ => noLoops_ok _ _ _) fnsKnown (noTabs w) rfl nanD3Ran rfl (fun _ _ _ => noBd rfl _) nan_plain
theorem inf_ok3 (w : World) : infD3.Ok Try.prog ⟨w, fnG⟩ := gspec_run Try.call99 (fun w' _ => gOracle_ok fun _ hq => by
  simp only [List.mem_cons, List.not_mem_nil, or_false] at hq
  rcases hq with rfl | rfl
  · exact sgn_ok3 w'
  · exact top_ok3 w') (fun _ _ => noLoops_ok _ _ _) fnsKnown (noTabs w) rfl infD3Ran rfl (fun _ _ _ => noBd rfl _) inf_plain
theorem g0_ok3 (w : World) : OracleOk Try.prog ⟨w, fnG⟩ (gOracle gsD03) := gOracle_ok fun _ hq => by
  simp only [gsD03, List.mem_cons, List.not_mem_nil, or_false] at hq
  rcases hq with rfl | rfl | rfl | rfl | rfl | rfl
  · exact sgn_ok3 w
  · exact bias_ok3 w
  · exact least_ok3 w
  · exact top_ok3 w
  · exact nan_ok3 w
  · exact inf_ok3 w
theorem rnd_orc3 (w : World) : OracleOk Try.prog ⟨w, fnG⟩ (orcs (gOracle gsD03) (orcs (specOracle [longS]) (nameO (specOracle [downS])))) :=
  orcs_ok (g0_ok3 w) (orcs_ok (one_ok (long_ok w)) (nameO_ok (one_ok (down_ok w))))
theorem rndA0_ok3 (w : World) : rndA03.Ok Try.prog ⟨w, fnG⟩ := gspec_run Try.call103 (fun w' _ => rnd_orc3 w') (fun _ _ => noLoops_ok _ _ _) fnsKnown (noTabs w) rfl RunRndA03.rndA03Ran rfl (fun _ _ _ => noBd rfl _) PlainRndA03.plain
theorem rndA1_ok3 (w : World) : rndA13.Ok Try.prog ⟨w, fnG⟩ := gspec_run Try.call103 (fun w' _ => rnd_orc3 w') (fun _ _ => noLoops_ok _ _ _) fnsKnown (noTabs w) rfl RunRndA13.rndA13Ran rfl (fun _ _ _ => noBd rfl _) PlainRndA13.plain
theorem rndB0_ok3 (w : World) : rndB03.Ok Try.prog ⟨w, fnG⟩ := gspec_run Try.call103 (fun w' _ => rnd_orc3 w') (fun _ _ => noLoops_ok _ _ _) fnsKnown (noTabs w) rfl RunRndB03.rndB03Ran rfl (fun _ _ _ => noBd rfl _) PlainRndB03.plain
theorem rndB1_ok3 (w : World) : rndB13.Ok Try.prog ⟨w, fnG⟩ := gspec_run Try.call103 (fun w' _ => rnd_orc3 w') (fun _ _ => noLoops_ok _ _ _) fnsKnown (noTabs w) rfl RunRndB13.rndB13Ran rfl (fun _ _ _ => noBd rfl _) PlainRndB13.plain
theorem rnd_ok3 (w : World) : rndD3.Ok Try.prog ⟨w, fnG⟩ := by
  refine ⟨Try.call103, fun v hv hp => ⟨fun _ h => (by cases h), ?_⟩⟩
  have ext : ∀ a b : E, a.den ⟨v, fnG⟩ ≠ 0 → b.den ⟨v, fnG⟩ ≠ 0 → pcOk ⟨v, fnG⟩ (a :: b :: rndPre) := fun a b ha hb e he => by
    rcases List.mem_cons.1 he with rfl | he
    · exact ha
    · rcases List.mem_cons.1 he with rfl | he
      · exact hb
      · exact hp e he
  have lt1 : ∀ a b : E, a.den ⟨v, fnG⟩ < b.den ⟨v, fnG⟩ → (bi .lt a b).den ⟨v, fnG⟩ ≠ 0 := fun a b h => by simp [bi, E.den, Bi.den, b2i, h]
  have le1 : ∀ a b : E, a.den ⟨v, fnG⟩ ≤ b.den ⟨v, fnG⟩ → (bi .le a b).den ⟨v, fnG⟩ ≠ 0 := fun a b h => by simp [bi, E.den, Bi.den, b2i, h]
  by_cases hab : byB3.den ⟨v, fnG⟩ < byA3.den ⟨v, fnG⟩
  · by_cases h0 : byA3.den ⟨v, fnG⟩ < (E.lit 0).den ⟨v, fnG⟩
    · exact ((rndA0_ok3 w).2 v hv (ext _ _ (lt1 _ _ h0) (lt1 _ _ hab))).2
    · exact ((rndA1_ok3 w).2 v hv (ext _ _ (le1 _ _ (by omega)) (lt1 _ _ hab))).2
  · by_cases h0 : byB3.den ⟨v, fnG⟩ < (E.lit 0).den ⟨v, fnG⟩
    · exact ((rndB0_ok3 w).2 v hv (ext _ _ (lt1 _ _ h0) (le1 _ _ (by omega)))).2
    · exact ((rndB1_ok3 w).2 v hv (ext _ _ (le1 _ _ (by omega)) (le1 _ _ (by omega)))).2
theorem pre03 {w : World} {l : List GSpec} (h : ∀ g ∈ l, g.Ok Try.prog ⟨w, fnG⟩) : OracleOk Try.prog ⟨w, fnG⟩ (gOracle (gsD03 ++ l)) := gOracle_ok fun g hg => by
  rcases List.mem_append.1 hg with hg | hg
  · simp only [gsD03, List.mem_cons, List.not_mem_nil, or_false] at hg
    rcases hg with rfl | rfl | rfl | rfl | rfl | rfl
    · exact sgn_ok3 w
    · exact bias_ok3 w
    · exact least_ok3 w
    · exact top_ok3 w
    · exact nan_ok3 w
    · exact inf_ok3 w
  · exact h g hg
theorem apart_ok3 (w : World) : apartD3.Ok Try.prog ⟨w, fnG⟩ := gspec_run Try.call79 (fun w' _ => g0_ok3 w') (fun _ _ => noLoops_ok _ _ _) fnsKnown (noTabs w) rfl apartD3Ran rfl apart_bd apart_plain
theorem ap_ok3 (w : World) : OracleOk Try.prog ⟨w, fnG⟩ (nameO (gOracle [apartD3])) := nameO_ok (gone_ok (apart_ok3 w))
theorem less_ok3 (w : World) : lessD3.Ok Try.prog ⟨w, fnG⟩ := gspec_run Try.call85 (fun w' _ => ap_ok3 w') (fun _ _ => noLoops_ok _ _ _) fnsKnown (noTabs w) rfl lessD3Ran rfl (fun _ _ _ => noBd rfl _) less_plain
theorem add_ok3 (w : World) : addD3.Ok Try.prog ⟨w, fnG⟩ := gspec_run Try.call109 (fun w' _ => pre03 (RefL.mem1 (rnd_ok3 w'))) (fun _ _ => noLoops_ok _ _ _) fnsKnown (noTabs w) rfl RunRefC3.addD3Ran rfl PlainRefC3.add_bd PlainRefC3.add_plain
theorem sum_ok3 (w : World) : sumD3.Ok Try.prog ⟨w, fnG⟩ := gspec_run Try.call86 (fun w' _ => pre03 (RefL.mem1 (add_ok3 w'))) (fun _ _ => noLoops_ok _ _ _) fnsKnown (noTabs w) rfl sumD3Ran rfl (fun _ hk hp => sum_in hk hp) sum_plain
theorem prod_ok3 (w : World) : mulD3.Ok Try.prog ⟨w, fnG⟩ := gspec_run Try.call87 (fun w' _ => orcs_ok (pre03 (RefL.mem1 (rnd_ok3 w'))) (one_ok (mul_ok w'))) (fun _ _ => noLoops_ok _ _ _) fnsKnown (noTabs w) rfl mulD3Ran rfl (fun _ hk hp => mul_in hk hp) mul_plain'
theorem quo_ok3 (w : World) : quoD3.Ok Try.prog ⟨w, fnG⟩ := gspec_run Try.call88 (fun w' _ => orcs_ok (pre03 (RefL.mem1 (rnd_ok3 w'))) (specOracle_ok (RefL.mem2 (RefL.lenT_ok w') (RefL.div_ok w')))) (fun _ _ => noLoops_ok _ _ _) fnsKnown (noTabs w) rfl RunRefD3.quoD3Ran rfl quo_bd quo_plain
theorem root_ok3 (w : World) : rootD3.Ok Try.prog ⟨w, fnG⟩ := gspec_run Try.call78 (fun w' _ => orcs_ok (pre03 (RefL.mem1 (rnd_ok3 w'))) (specOracle_ok (RefL.mem2 (RefL.lenT_ok w') (mul_ok w')))) (fun w' _ => lone_ok (RefL.rootLo_ok w')) fnsKnown (noTabs w) rfl RunRefD3.rootD3Ran rfl root_bd root_plain
theorem whole_ok3 (w : World) : wholeD3.Ok Try.prog ⟨w, fnG⟩ := gspec_run Try.call80 (fun w' _ => orcs_ok (ap_ok3 w') (orcs_ok (pre03 (RefL.mem1 (rnd_ok3 w'))) (nameO_ok (one_ok (down_ok w'))))) (fun _ _ => noLoops_ok _ _ _) fnsKnown (noTabs w) rfl RunRefD3.wholeD3Ran rfl whole_bd whole_plain
theorem extr_ok3 (w : World) : extrD3.Ok Try.prog ⟨w, fnG⟩ := gspec_run Try.call89 (fun w' _ => orcs_ok (ap_ok3 w') (pre03 (RefL.mem1 (less_ok3 w')))) (fun _ _ => noLoops_ok _ _ _) fnsKnown (noTabs w) rfl RunRefE3.extrD3Ran rfl extr_bd extr_plain
theorem un_ok3 (w : World) : unD3.Ok Try.prog ⟨w, fnG⟩ := gspec_run Try.call55 (fun w' _ => orcs_ok (ap_ok3 w') (pre03 (RefL.mem2 (root_ok3 w') (whole_ok3 w')))) (fun _ _ => noLoops_ok _ _ _) fnsKnown (noTabs w) rfl RunRefE3.unD3Ran rfl un_bd un_plain
theorem bin_ok3 (w : World) : binD3.Ok Try.prog ⟨w, fnG⟩ := gspec_run Try.call59 (fun w' _ => orcs_ok (ap_ok3 w') (pre03 (RefL.mem4 (sum_ok3 w') (prod_ok3 w') (quo_ok3 w') (extr_ok3 w')))) (fun _ _ => noLoops_ok _ _ _) fnsKnown (noTabs w) rfl RunRefE3.binD3Ran rfl bin_bd bin_plain
/-! ### comparisons: six kinds make one -/
theorem cmp_orc3 (w : World) : OracleOk Try.prog ⟨w, fnG⟩ (orcs (nameO (gOracle [apartD3])) (gOracle [lessD3])) := orcs_ok (ap_ok3 w) (gone_ok (less_ok3 w))
theorem comp0_ok3 (w : World) : (compDK3 0).Ok Try.prog ⟨w, fnG⟩ := gspec_run Try.call58 (fun w' _ => cmp_orc3 w') (fun _ _ => noLoops_ok _ _ _) fnsKnown (noTabs w) rfl RunRefF3.compDK30Ran rfl (fun _ _ _ => noBd rfl _) PlainRefF3.plain0
theorem comp1_ok3 (w : World) : (compDK3 1).Ok Try.prog ⟨w, fnG⟩ := gspec_run Try.call58 (fun w' _ => cmp_orc3 w') (fun _ _ => noLoops_ok _ _ _) fnsKnown (noTabs w) rfl RunRefF3.compDK31Ran rfl (fun _ _ _ => noBd rfl _) PlainRefF3.plain1
theorem comp2_ok3 (w : World) : (compDK3 2).Ok Try.prog ⟨w, fnG⟩ := gspec_run Try.call58 (fun w' _ => cmp_orc3 w') (fun _ _ => noLoops_ok _ _ _) fnsKnown (noTabs w) rfl RunRefF3.compDK32Ran rfl (fun _ _ _ => noBd rfl _) PlainRefF3.plain2
theorem comp3_ok3 (w : World) : (compDK3 3).Ok Try.prog ⟨w, fnG⟩ := gspec_run Try.call58 (fun w' _ => cmp_orc3 w') (fun _ _ => noLoops_ok _ _ _) fnsKnown (noTabs w) rfl RunRefF3.compDK33Ran rfl (fun _ _ _ => noBd rfl _) PlainRefF3.plain3
theorem comp4_ok3 (w : World) : (compDK3 4).Ok Try.prog ⟨w, fnG⟩ := gspec_run Try.call58 (fun w' _ => cmp_orc3 w') (fun _ _ => noLoops_ok _ _ _) fnsKnown (noTabs w) rfl RunRefF3.compDK34Ran rfl (fun _ _ _ => noBd rfl _) PlainRefF3.plain4
theorem comp5_ok3 (w : World) : (compDK3 5).Ok Try.prog ⟨w, fnG⟩ := gspec_run Try.call58 (fun w' _ => cmp_orc3 w') (fun _ _ => noLoops_ok _ _ _) fnsKnown (noTabs w) rfl RunRefF3.compDK35Ran rfl (fun _ _ _ => noBd rfl _) PlainRefF3.plain5
theorem comp_of3 {w : World} {k : Int} (h : (compDK3 k).Ok Try.prog ⟨w, fnG⟩) (v : Nat → Int) (hv : KindOk v 0 compD3.sp.ks) (hp : pcOk ⟨v, fnG⟩ compD3.sp.pre) (hk : v 0 = k) (he : (compK3 k).den ⟨fun i => v (i + 1), fnG⟩ = compE3.den ⟨v, fnG⟩) :
    ∀ w', Ext w w' → Calls Try.prog 58 (groupA compD3.sh (kindVals v 0 compD3.sp.ks)).toArray w' fun e w1 => e = .returned (outA compD3.ra (compD3.sp.res.map (resVal ⟨v, fnG⟩))) ∧ Ext w' w1 := by
  intro w' hx
  have h1 := ((h.2 (fun i => v (i + 1)) ⟨hv.2.1, hv.2.2.1, trivial⟩ (fun e hq => by
    simp only [compDK3, List.mem_cons, List.not_mem_nil, or_false] at hq
    rcases hq with rfl | rfl
    · exact hp (bi .le (Flt.v 1) (.lit 4294967295)) (by simp [compD3, bi])
    · exact hp (bi .le (Flt.v 2) (.lit 4294967295)) (by simp [compD3, bi]))).2 w' hx)
  have e1 : groupA (compDK3 k).sh (kindVals (fun i => v (i + 1)) 0 (compDK3 k).sp.ks) = groupA compD3.sh (kindVals v 0 compD3.sp.ks) := by
    subst hk; rfl
  rw [e1] at h1
  have e2 : (compDK3 k).sp.res.map (resVal ⟨fun i => v (i + 1), fnG⟩) = compD3.sp.res.map (resVal ⟨v, fnG⟩) := by
    simp only [compDK3, compD3, List.map, resVal, he]
  rw [e2] at h1
  exact h1
theorem comp_ok3 (w : World) : compD3.Ok Try.prog ⟨w, fnG⟩ := by
  refine ⟨Try.call58, fun v hv hp => ⟨fun _ h => (by cases h), ?_⟩⟩
  have h1 : (0 : Int) ≤ v 0 := PlainRefC3.le_of (hp (bi .le (.lit 0) (Flt.v 0)) (by simp [compD3, bi]))
  have h2 : v 0 ≤ 5 := PlainRefC3.le_of (hp (bi .le (Flt.v 0) (.lit 5)) (by simp [compD3, bi]))
  have hc : v 0 = 0 ∨ v 0 = 1 ∨ v 0 = 2 ∨ v 0 = 3 ∨ v 0 = 4 ∨ v 0 = 5 := by omega
  have hd : ∀ k : Int, v 0 = k → (compE3.den ⟨v, fnG⟩ = if k = 0 then (tr (bi .eq oU3 (.lit 0))).den ⟨v, fnG⟩ else if k = 1 then (tr (no (bi .eq oU3 (.lit 0)))).den ⟨v, fnG⟩ else if k = 2 then (tr (bi .eq oU3 (.lit 1))).den ⟨v, fnG⟩ else if k = 3 then (tr (bi .eq oU3 (.lit 2))).den ⟨v, fnG⟩ else if k = 4 then (tr (bi .le oU3 (.lit 1))).den ⟨v, fnG⟩ else (tr (bi .or (bi .eq oU3 (.lit 2)) (bi .eq oU3 (.lit 0)))).den ⟨v, fnG⟩) := by
    intro k hk
    have hb : ∀ j : Int, (b2i (v 0 == j) ≠ 0) = (k = j) := fun j => by rw [hk, b2i_ne, beq_iff_eq]
    simp only [compE3, bi, Flt.v, E.den, Bi.den, hb]
  rcases hc with h | h | h | h | h | h
  · exact comp_of3 (comp0_ok3 w) v hv hp h (by rw [hd _ h]; rfl)
  · exact comp_of3 (comp1_ok3 w) v hv hp h (by rw [hd _ h]; rfl)
  · exact comp_of3 (comp2_ok3 w) v hv hp h (by rw [hd _ h]; rfl)
  · exact comp_of3 (comp3_ok3 w) v hv hp h (by rw [hd _ h]; rfl)
  · exact comp_of3 (comp4_ok3 w) v hv hp h (by rw [hd _ h]; rfl)
  · exact comp_of3 (comp5_ok3 w) v hv hp h (by rw [hd _ h]; rfl)
theorem refUn_ok (w : World) : refUn3S.Ok Try.prog ⟨w, fnG⟩ := spec_run Try.call36 (fun w' _ => pre03 (RefL.mem1 (un_ok3 w'))) (fun _ _ => noLoops_ok _ _ _) fnsKnown (noTabs w) RunRefG3.refUn3Ran rfl (fun _ _ _ => noBd rfl _) PlainRefG3.refUn_plain
theorem refBin_ok (w : World) : refBin3S.Ok Try.prog ⟨w, fnG⟩ := spec_run Try.call38 (fun w' _ => pre03 (RefL.mem2 (comp_ok3 w') (bin_ok3 w'))) (fun _ _ => noLoops_ok _ _ _) fnsKnown (noTabs w) RunRefG3.refBin3Ran rfl (fun _ _ _ => noBd rfl _) PlainRefG3.refBin_plain
theorem refUn_fn (w : World) : refUn3S.Ok Try.prog ⟨w, fnF⟩ := RefL.spec_fn (refUn_ok w) rfl rfl (by decide)
theorem refBin_fn (w : World) : refBin3S.Ok Try.prog ⟨w, fnF⟩ := RefL.spec_fn (refBin_ok w) rfl rfl (by decide)
/-! ### the program's, with roots -/
theorem unQ_ok (w : World) : unQ32.Ok Try.prog ⟨w, fnF⟩ := spec_run Try.call35 (fun w' _ => Op32.x_ok w') (fun _ _ => noLoops_ok _ _ _) fnsKnown (noTabs w) RunRefG3.unQRan rfl (fun _ _ _ => noBd rfl _) PlainRefG3.unQ_plain
theorem binR_ok (w : World) : binR32.Ok Try.prog ⟨w, fnF⟩ := ⟨(OpT.bin_ok w).1, fun v hv hp => ⟨fun _ h => (by cases h), ((OpT.bin_ok w).2 v hv hp).2⟩⟩
theorem unR_ok (w : World) : unR32.Ok Try.prog ⟨w, fnF⟩ := by
  refine ⟨Try.call35, fun v hv _ => ⟨fun _ h => (by cases h), ?_⟩⟩
  by_cases h : v 0 = 145
  · have h1 := ((unQ_ok w).2 v hv (fun e he => by
      simp only [unQ32, List.mem_singleton] at he
      subst he
      simp [bi, Flt.v, E.den, Bi.den, h, b2i])).2
    have e : unR32.res.map (resVal ⟨v, fnF⟩) = unQ32.res.map (resVal ⟨v, fnF⟩) := by
      have e1 : unRV32.den ⟨v, fnF⟩ = rootP32.den ⟨v, fnF⟩ := by
        have := den_sel ⟨v, fnF⟩ unR32L (.lit 0)
        have e3 : (⟨v, fnF⟩ : Env).v 0 = 145 := h
        rw [e3] at this
        exact this
      have e2 : unRE32.den ⟨v, fnF⟩ = 0 := by
        have := den_sel ⟨v, fnF⟩ ([139, 140, 141, 142, 143, 144, 145].map fun k => (k, .lit 0)) (.lit 400)
        have e3 : (⟨v, fnF⟩ : Env).v 0 = 145 := h
        rw [e3] at this
        exact this
      simp only [unR32, unQ32, List.map, resVal, e1, e2]
      rfl
    rw [e]
    exact h1
  · have h1 := ((OpU.un_ok w).2 v hv (fun e he => by
      simp only [unT32, List.mem_singleton] at he
      subst he
      simp [no, bi, Flt.v, E.den, Bi.den, Un.den, h, b2i])).2
    have app : ∀ (l : List (Int × E)) (k : Int) (x d : E) (n : Int), n ≠ k → selF (l ++ [(k, x)]) d n = selF l d n := fun l k x d n hn => by
      induction l with
      | nil => simp [selF, hn]
      | cons p r ih => simp only [List.cons_append, selF, ih]
    have e : unR32.res.map (resVal ⟨v, fnF⟩) = unT32.res.map (resVal ⟨v, fnF⟩) := by
      have e1 : unRV32.den ⟨v, fnF⟩ = unTV32.den ⟨v, fnF⟩ := by
        have a := den_sel ⟨v, fnF⟩ unR32L (.lit 0)
        have b := den_sel ⟨v, fnF⟩ unT32L (.lit 0)
        have c := app unT32L 145 rootP32 (.lit 0) (v 0) h
        exact a.trans ((congrArg (fun z => z.den ⟨v, fnF⟩) c).trans b.symm)
      have e2 : unRE32.den ⟨v, fnF⟩ = unTE32.den ⟨v, fnF⟩ := by
        have a := den_sel ⟨v, fnF⟩ ([139, 140, 141, 142, 143, 144, 145].map fun k => (k, .lit 0)) (.lit 400)
        have b := den_sel ⟨v, fnF⟩ ([139, 140, 141, 142, 143, 144].map fun k => (k, .lit 0)) (.lit 400)
        have c := app ([139, 140, 141, 142, 143, 144].map fun k => (k, .lit 0)) 145 (.lit 0) (.lit 400) (v 0) h
        exact a.trans ((congrArg (fun z => z.den ⟨v, fnF⟩) c).trans b.symm)
      simp only [unR32, unT32, List.map, resVal, e1, e2]
    rw [e]
    exact h1
theorem ops_ok (w : World) : OracleOk Try.prog ⟨w, fnF⟩ (orcs (xOracle xts) (specOracle specsA32)) := orcs_ok (Op32.x_ok w) (specOracle_ok fun sp h => by
  simp only [specsA32, List.mem_cons, List.not_mem_nil, or_false] at h
  rcases h with rfl | rfl | rfl | rfl | rfl
  · exact unR_ok w
  · exact binR_ok w
  · exact Op32.aw_ok w
  · exact refUn_fn w
  · exact refBin_fn w)
end Go.Proofs.Ytnodelimomljbaa.RefB3
