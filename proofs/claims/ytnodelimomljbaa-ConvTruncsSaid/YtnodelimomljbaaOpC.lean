/- The contract of convn.Of, of the floats that are cut, holds. No condition. -/
import Derived.Test.YtnodelimomljbaaPlainOpC
import Derived.Test.YtnodelimomljbaaOp32
namespace Go.Proofs.Ytnodelimomljbaa.OpC
open Go Go.Sx Go.Sx.Flt Go.Proofs.Ytnodelimomljbaa.RunOpC Go.Proofs.Ytnodelimomljbaa.PlainOpC

theorem cv_ok (w : World) : cvS.Ok Try.prog ⟨w, fnF⟩ := spec_run Try.call28 (fun w' _ => Op32.x_ok w') (fun _ _ => noLoops_ok _ _ _) fnsKnown (noTabs w) cvRan rfl (fun u _ _ p hp => by
  exact absurd hp (by simp [cvS])) fun u hk _ => cv_plain u hk
theorem ops_ok (w : World) : OracleOk Try.prog ⟨w, fnF⟩ (orcs (xOracle xts) (soft (specOracle specsCv))) := orcs_ok (Op32.x_ok w) (soft_ok (specOracle_ok fun sp h => by
  simp only [specsCv, List.mem_cons, List.not_mem_nil, or_false] at h
  subst h
  exact cv_ok w))
end Go.Proofs.Ytnodelimomljbaa.OpC
