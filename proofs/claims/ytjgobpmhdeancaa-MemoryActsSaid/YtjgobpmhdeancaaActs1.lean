/- A round of the law MemoryActs, case 1: each way goes round again, leaves the loop, or cannot be. No condition. -/
import Derived.Test.YtjgobpmhdeancaaGsMemoryActs
import Derived.KernelRfl
namespace Go.Proofs.Ytjgobpmhdeancaa.Acts1
open Go Go.Sx Go.Proofs.Ytjgobpmhdeancaa Go.Proofs.Ytjgobpmhdeancaa.GsMemoryActs
set_option maxRecDepth 100000 in
theorem fine : actsC.caseOk Try.prog noOracle noLoops (bodies fns) 4000 cl (acts.getD 1 []) = true := by kernel_rfl
end Go.Proofs.Ytjgobpmhdeancaa.Acts1
