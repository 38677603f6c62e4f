/- How the program was made, once for all rows of the seat. No condition. -/
import Derived.Test.YtnodelimomljbaaBase
namespace Go.Proofs.Ytnodelimomljbaa.Base
open Go
theorem make : Try.prog.make = some Rows.f64SignsRow.make := by kernel_rfl
end Go.Proofs.Ytnodelimomljbaa.Base
