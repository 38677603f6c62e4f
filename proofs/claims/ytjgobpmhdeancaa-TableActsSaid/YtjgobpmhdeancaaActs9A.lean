/- Rounds of the law TableActs, actsT, cases 0 to 5: each way goes round again, leaves the loop, or cannot be. No condition. -/
import Derived.Test.YtjgobpmhdeancaaGsTableActs
import Derived.KernelRfl
namespace Go.Proofs.Ytjgobpmhdeancaa.Acts9T0
open Go Go.Sx Go.Proofs.Ytjgobpmhdeancaa Go.Proofs.Ytjgobpmhdeancaa.GsTableActs
set_option maxRecDepth 100000 in
theorem fine : actsT.caseOk Try.prog noOracle inner (bodies fns) 4000 clT (cs.getD 0 []) = true := by kernel_rfl
end Go.Proofs.Ytjgobpmhdeancaa.Acts9T0
namespace Go.Proofs.Ytjgobpmhdeancaa.Acts9T1
open Go Go.Sx Go.Proofs.Ytjgobpmhdeancaa Go.Proofs.Ytjgobpmhdeancaa.GsTableActs
set_option maxRecDepth 100000 in
theorem fine : actsT.caseOk Try.prog noOracle inner (bodies fns) 4000 clT (cs.getD 1 []) = true := by kernel_rfl
end Go.Proofs.Ytjgobpmhdeancaa.Acts9T1
namespace Go.Proofs.Ytjgobpmhdeancaa.Acts9T2
open Go Go.Sx Go.Proofs.Ytjgobpmhdeancaa Go.Proofs.Ytjgobpmhdeancaa.GsTableActs
set_option maxRecDepth 100000 in
theorem fine : actsT.caseOk Try.prog noOracle inner (bodies fns) 4000 clT (cs.getD 2 []) = true := by kernel_rfl
end Go.Proofs.Ytjgobpmhdeancaa.Acts9T2
namespace Go.Proofs.Ytjgobpmhdeancaa.Acts9T3
open Go Go.Sx Go.Proofs.Ytjgobpmhdeancaa Go.Proofs.Ytjgobpmhdeancaa.GsTableActs
set_option maxRecDepth 100000 in
theorem fine : actsT.caseOk Try.prog noOracle inner (bodies fns) 4000 clT (cs.getD 3 []) = true := by kernel_rfl
end Go.Proofs.Ytjgobpmhdeancaa.Acts9T3
namespace Go.Proofs.Ytjgobpmhdeancaa.Acts9T4
open Go Go.Sx Go.Proofs.Ytjgobpmhdeancaa Go.Proofs.Ytjgobpmhdeancaa.GsTableActs
set_option maxRecDepth 100000 in
theorem fine : actsT.caseOk Try.prog noOracle inner (bodies fns) 4000 clT (cs.getD 4 []) = true := by kernel_rfl
end Go.Proofs.Ytjgobpmhdeancaa.Acts9T4
namespace Go.Proofs.Ytjgobpmhdeancaa.Acts9T5
open Go Go.Sx Go.Proofs.Ytjgobpmhdeancaa Go.Proofs.Ytjgobpmhdeancaa.GsTableActs
set_option maxRecDepth 100000 in
theorem fine : actsT.caseOk Try.prog noOracle inner (bodies fns) 4000 clT (cs.getD 5 []) = true := by kernel_rfl
end Go.Proofs.Ytjgobpmhdeancaa.Acts9T5
