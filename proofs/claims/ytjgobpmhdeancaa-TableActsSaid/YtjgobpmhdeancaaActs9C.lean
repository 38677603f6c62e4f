/- Rounds of the law TableActs, actsT, cases 10 to 12: each way goes round again, leaves the loop, or cannot be. No condition. -/
import Derived.Test.YtjgobpmhdeancaaGsTableActs
import Derived.KernelRfl
namespace Go.Proofs.Ytjgobpmhdeancaa.Acts9T10
open Go Go.Sx Go.Proofs.Ytjgobpmhdeancaa Go.Proofs.Ytjgobpmhdeancaa.GsTableActs
set_option maxRecDepth 100000 in
theorem fine : actsT.caseOk Try.prog noOracle inner (bodies fns) 4000 clT (cs.getD 10 []) = true := by kernel_rfl
end Go.Proofs.Ytjgobpmhdeancaa.Acts9T10
namespace Go.Proofs.Ytjgobpmhdeancaa.Acts9T11
open Go Go.Sx Go.Proofs.Ytjgobpmhdeancaa Go.Proofs.Ytjgobpmhdeancaa.GsTableActs
set_option maxRecDepth 100000 in
theorem fine : actsT.caseOk Try.prog noOracle inner (bodies fns) 4000 clT (cs.getD 11 []) = true := by kernel_rfl
end Go.Proofs.Ytjgobpmhdeancaa.Acts9T11
namespace Go.Proofs.Ytjgobpmhdeancaa.Acts9T12
open Go Go.Sx Go.Proofs.Ytjgobpmhdeancaa Go.Proofs.Ytjgobpmhdeancaa.GsTableActs
set_option maxRecDepth 100000 in
theorem fine : actsT.caseOk Try.prog noOracle inner (bodies fns) 4000 clT (cs.getD 12 []) = true := by kernel_rfl
end Go.Proofs.Ytjgobpmhdeancaa.Acts9T12
