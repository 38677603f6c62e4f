/- Rounds of the law TableActs, actsZ, cases 8 to 13: each way goes round again, leaves the loop, or cannot be. No condition. -/
import Derived.Test.YtjgobpmhdeancaaGsTableActs
import Derived.KernelRfl
namespace Go.Proofs.Ytjgobpmhdeancaa.Acts9Z8
open Go Go.Sx Go.Proofs.Ytjgobpmhdeancaa Go.Proofs.Ytjgobpmhdeancaa.GsTableActs
set_option maxRecDepth 100000 in
theorem fine : actsZ.caseOk Try.prog noOracle inner (bodies fns) 4000 clZ (csZ.getD 8 []) = true := by kernel_rfl
end Go.Proofs.Ytjgobpmhdeancaa.Acts9Z8
namespace Go.Proofs.Ytjgobpmhdeancaa.Acts9Z9
open Go Go.Sx Go.Proofs.Ytjgobpmhdeancaa Go.Proofs.Ytjgobpmhdeancaa.GsTableActs
set_option maxRecDepth 100000 in
theorem fine : actsZ.caseOk Try.prog noOracle inner (bodies fns) 4000 clZ (csZ.getD 9 []) = true := by kernel_rfl
end Go.Proofs.Ytjgobpmhdeancaa.Acts9Z9
namespace Go.Proofs.Ytjgobpmhdeancaa.Acts9Z10
open Go Go.Sx Go.Proofs.Ytjgobpmhdeancaa Go.Proofs.Ytjgobpmhdeancaa.GsTableActs
set_option maxRecDepth 100000 in
theorem fine : actsZ.caseOk Try.prog noOracle inner (bodies fns) 4000 clZ (csZ.getD 10 []) = true := by kernel_rfl
end Go.Proofs.Ytjgobpmhdeancaa.Acts9Z10
namespace Go.Proofs.Ytjgobpmhdeancaa.Acts9Z11
open Go Go.Sx Go.Proofs.Ytjgobpmhdeancaa Go.Proofs.Ytjgobpmhdeancaa.GsTableActs
set_option maxRecDepth 100000 in
theorem fine : actsZ.caseOk Try.prog noOracle inner (bodies fns) 4000 clZ (csZ.getD 11 []) = true := by kernel_rfl
end Go.Proofs.Ytjgobpmhdeancaa.Acts9Z11
namespace Go.Proofs.Ytjgobpmhdeancaa.Acts9Z12
open Go Go.Sx Go.Proofs.Ytjgobpmhdeancaa Go.Proofs.Ytjgobpmhdeancaa.GsTableActs
set_option maxRecDepth 100000 in
theorem fine : actsZ.caseOk Try.prog noOracle inner (bodies fns) 4000 clZ (csZ.getD 12 []) = true := by kernel_rfl
end Go.Proofs.Ytjgobpmhdeancaa.Acts9Z12
namespace Go.Proofs.Ytjgobpmhdeancaa.Acts9Z13
open Go Go.Sx Go.Proofs.Ytjgobpmhdeancaa Go.Proofs.Ytjgobpmhdeancaa.GsTableActs
set_option maxRecDepth 100000 in
theorem fine : actsZ.caseOk Try.prog noOracle inner (bodies fns) 4000 clZ (csZ.getD 13 []) = true := by kernel_rfl
end Go.Proofs.Ytjgobpmhdeancaa.Acts9Z13
