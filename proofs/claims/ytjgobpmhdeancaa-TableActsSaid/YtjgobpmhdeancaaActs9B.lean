/- Rounds of the law TableActs, actsT, cases 6 to 9: each way goes round again, leaves the loop, or cannot be. No condition. -/
import Derived.Test.YtjgobpmhdeancaaGsTableActs
import Derived.KernelRfl
namespace Go.Proofs.Ytjgobpmhdeancaa.Acts9T6
open Go Go.Sx Go.Proofs.Ytjgobpmhdeancaa Go.Proofs.Ytjgobpmhdeancaa.GsTableActs
set_option maxRecDepth 100000 in
theorem fine : actsT.caseOk Try.prog noOracle inner (bodies fns) 4000 clT (cs.getD 6 []) = true := by kernel_rfl
end Go.Proofs.Ytjgobpmhdeancaa.Acts9T6
namespace Go.Proofs.Ytjgobpmhdeancaa.Acts9T7
open Go Go.Sx Go.Proofs.Ytjgobpmhdeancaa Go.Proofs.Ytjgobpmhdeancaa.GsTableActs
set_option maxRecDepth 100000 in
theorem fine : actsT.caseOk Try.prog noOracle inner (bodies fns) 4000 clT (cs.getD 7 []) = true := by kernel_rfl
end Go.Proofs.Ytjgobpmhdeancaa.Acts9T7
namespace Go.Proofs.Ytjgobpmhdeancaa.Acts9T8
open Go Go.Sx Go.Proofs.Ytjgobpmhdeancaa Go.Proofs.Ytjgobpmhdeancaa.GsTableActs
set_option maxRecDepth 100000 in
theorem fine : actsT.caseOk Try.prog noOracle inner (bodies fns) 4000 clT (cs.getD 8 []) = true := by kernel_rfl
end Go.Proofs.Ytjgobpmhdeancaa.Acts9T8
namespace Go.Proofs.Ytjgobpmhdeancaa.Acts9T9
open Go Go.Sx Go.Proofs.Ytjgobpmhdeancaa Go.Proofs.Ytjgobpmhdeancaa.GsTableActs
set_option maxRecDepth 100000 in
theorem fine : actsT.caseOk Try.prog noOracle inner (bodies fns) 4000 clT (cs.getD 9 []) = true := by kernel_rfl
end Go.Proofs.Ytjgobpmhdeancaa.Acts9T9
