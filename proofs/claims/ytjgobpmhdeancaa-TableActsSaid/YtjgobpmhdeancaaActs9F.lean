/- Rounds of the law TableActs, actsT, cases 18 to 19: each way goes round again, leaves the loop, or cannot be. No condition. -/
import Derived.Test.YtjgobpmhdeancaaGsTableActs
import Derived.KernelRfl
namespace Go.Proofs.Ytjgobpmhdeancaa.Acts9T18
open Go Go.Sx Go.Proofs.Ytjgobpmhdeancaa Go.Proofs.Ytjgobpmhdeancaa.GsTableActs
set_option maxRecDepth 100000 in
theorem fine : actsT.caseOk Try.prog noOracle inner (bodies fns) 4000 clT (cs.getD 18 []) = true := by kernel_rfl
end Go.Proofs.Ytjgobpmhdeancaa.Acts9T18
namespace Go.Proofs.Ytjgobpmhdeancaa.Acts9T19
open Go Go.Sx Go.Proofs.Ytjgobpmhdeancaa Go.Proofs.Ytjgobpmhdeancaa.GsTableActs
set_option maxRecDepth 100000 in
theorem fine : actsT.caseOk Try.prog noOracle inner (bodies fns) 4000 clT (cs.getD 19 []) = true := by kernel_rfl
end Go.Proofs.Ytjgobpmhdeancaa.Acts9T19
