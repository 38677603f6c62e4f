/- Rounds of the law TableActs, actsT, cases 16 to 17: each way goes round again, leaves the loop, or cannot be. No condition. -/
import Derived.Test.YtjgobpmhdeancaaGsTableActs
import Derived.KernelRfl
namespace Go.Proofs.Ytjgobpmhdeancaa.Acts9T16
open Go Go.Sx Go.Proofs.Ytjgobpmhdeancaa Go.Proofs.Ytjgobpmhdeancaa.GsTableActs
set_option maxRecDepth 100000 in
theorem fine : actsT.caseOk Try.prog noOracle inner (bodies fns) 4000 clT (cs.getD 16 []) = true := by kernel_rfl
end Go.Proofs.Ytjgobpmhdeancaa.Acts9T16
namespace Go.Proofs.Ytjgobpmhdeancaa.Acts9T17
open Go Go.Sx Go.Proofs.Ytjgobpmhdeancaa Go.Proofs.Ytjgobpmhdeancaa.GsTableActs
set_option maxRecDepth 100000 in
theorem fine : actsT.caseOk Try.prog noOracle inner (bodies fns) 4000 clT (cs.getD 17 []) = true := by kernel_rfl
end Go.Proofs.Ytjgobpmhdeancaa.Acts9T17
