/- Rounds of the law TableActs, actsZ, cases 0 to 7: each way goes round again, leaves the loop, or cannot be. No condition. -/
import Derived.Test.YtjgobpmhdeancaaGsTableActs
import Derived.KernelRfl
namespace Go.Proofs.Ytjgobpmhdeancaa.Acts9Z0
open Go Go.Sx Go.Proofs.Ytjgobpmhdeancaa Go.Proofs.Ytjgobpmhdeancaa.GsTableActs
set_option maxRecDepth 100000 in
theorem fine : actsZ.caseOk Try.prog noOracle inner (bodies fns) 4000 clZ (csZ.getD 0 []) = true := by kernel_rfl
end Go.Proofs.Ytjgobpmhdeancaa.Acts9Z0
namespace Go.Proofs.Ytjgobpmhdeancaa.Acts9Z1
open Go Go.Sx Go.Proofs.Ytjgobpmhdeancaa Go.Proofs.Ytjgobpmhdeancaa.GsTableActs
set_option maxRecDepth 100000 in
theorem fine : actsZ.caseOk Try.prog noOracle inner (bodies fns) 4000 clZ (csZ.getD 1 []) = true := by kernel_rfl
end Go.Proofs.Ytjgobpmhdeancaa.Acts9Z1
namespace Go.Proofs.Ytjgobpmhdeancaa.Acts9Z2
open Go Go.Sx Go.Proofs.Ytjgobpmhdeancaa Go.Proofs.Ytjgobpmhdeancaa.GsTableActs
set_option maxRecDepth 100000 in
theorem fine : actsZ.caseOk Try.prog noOracle inner (bodies fns) 4000 clZ (csZ.getD 2 []) = true := by kernel_rfl
end Go.Proofs.Ytjgobpmhdeancaa.Acts9Z2
namespace Go.Proofs.Ytjgobpmhdeancaa.Acts9Z3
open Go Go.Sx Go.Proofs.Ytjgobpmhdeancaa Go.Proofs.Ytjgobpmhdeancaa.GsTableActs
set_option maxRecDepth 100000 in
theorem fine : actsZ.caseOk Try.prog noOracle inner (bodies fns) 4000 clZ (csZ.getD 3 []) = true := by kernel_rfl
end Go.Proofs.Ytjgobpmhdeancaa.Acts9Z3
namespace Go.Proofs.Ytjgobpmhdeancaa.Acts9Z4
open Go Go.Sx Go.Proofs.Ytjgobpmhdeancaa Go.Proofs.Ytjgobpmhdeancaa.GsTableActs
set_option maxRecDepth 100000 in
theorem fine : actsZ.caseOk Try.prog noOracle inner (bodies fns) 4000 clZ (csZ.getD 4 []) = true := by kernel_rfl
end Go.Proofs.Ytjgobpmhdeancaa.Acts9Z4
namespace Go.Proofs.Ytjgobpmhdeancaa.Acts9Z5
open Go Go.Sx Go.Proofs.Ytjgobpmhdeancaa Go.Proofs.Ytjgobpmhdeancaa.GsTableActs
set_option maxRecDepth 100000 in
theorem fine : actsZ.caseOk Try.prog noOracle inner (bodies fns) 4000 clZ (csZ.getD 5 []) = true := by kernel_rfl
end Go.Proofs.Ytjgobpmhdeancaa.Acts9Z5
namespace Go.Proofs.Ytjgobpmhdeancaa.Acts9Z6
open Go Go.Sx Go.Proofs.Ytjgobpmhdeancaa Go.Proofs.Ytjgobpmhdeancaa.GsTableActs
set_option maxRecDepth 100000 in
theorem fine : actsZ.caseOk Try.prog noOracle inner (bodies fns) 4000 clZ (csZ.getD 6 []) = true := by kernel_rfl
end Go.Proofs.Ytjgobpmhdeancaa.Acts9Z6
namespace Go.Proofs.Ytjgobpmhdeancaa.Acts9Z7
open Go Go.Sx Go.Proofs.Ytjgobpmhdeancaa Go.Proofs.Ytjgobpmhdeancaa.GsTableActs
set_option maxRecDepth 100000 in
theorem fine : actsZ.caseOk Try.prog noOracle inner (bodies fns) 4000 clZ (csZ.getD 7 []) = true := by kernel_rfl
end Go.Proofs.Ytjgobpmhdeancaa.Acts9Z7
