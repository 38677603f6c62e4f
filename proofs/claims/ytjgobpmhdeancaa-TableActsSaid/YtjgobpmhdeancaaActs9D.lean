/- Rounds of the law TableActs, actsT, cases 13 to 15: each way goes round again, leaves the loop, or cannot be. No condition. -/
import Derived.Test.YtjgobpmhdeancaaGsTableActs
import Derived.KernelRfl
namespace Go.Proofs.Ytjgobpmhdeancaa.Acts9T13
open Go Go.Sx Go.Proofs.Ytjgobpmhdeancaa Go.Proofs.Ytjgobpmhdeancaa.GsTableActs
set_option maxRecDepth 100000 in
theorem fine : actsT.caseOk Try.prog noOracle inner (bodies fns) 4000 clT (cs.getD 13 []) = true := by kernel_rfl
end Go.Proofs.Ytjgobpmhdeancaa.Acts9T13
namespace Go.Proofs.Ytjgobpmhdeancaa.Acts9T14
open Go Go.Sx Go.Proofs.Ytjgobpmhdeancaa Go.Proofs.Ytjgobpmhdeancaa.GsTableActs
set_option maxRecDepth 100000 in
theorem fine : actsT.caseOk Try.prog noOracle inner (bodies fns) 4000 clT (cs.getD 14 []) = true := by kernel_rfl
end Go.Proofs.Ytjgobpmhdeancaa.Acts9T14
namespace Go.Proofs.Ytjgobpmhdeancaa.Acts9T15
open Go Go.Sx Go.Proofs.Ytjgobpmhdeancaa Go.Proofs.Ytjgobpmhdeancaa.GsTableActs
set_option maxRecDepth 100000 in
theorem fine : actsT.caseOk Try.prog noOracle inner (bodies fns) 4000 clT (cs.getD 15 []) = true := by kernel_rfl
end Go.Proofs.Ytjgobpmhdeancaa.Acts9T15
