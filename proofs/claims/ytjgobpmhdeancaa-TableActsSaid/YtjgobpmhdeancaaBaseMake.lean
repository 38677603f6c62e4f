/- How the program was made, once for all rows of the seat. No condition. -/
import Derived.Test.YtjgobpmhdeancaaBase
namespace Go.Proofs.Ytjgobpmhdeancaa.Base
open Go
theorem make : Try.prog.make = some Rows.memoryBackRow.make := by kernel_rfl
end Go.Proofs.Ytjgobpmhdeancaa.Base
