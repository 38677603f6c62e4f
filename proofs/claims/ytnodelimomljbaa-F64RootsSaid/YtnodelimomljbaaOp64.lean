/- The contracts of f64n hold. No condition. -/
import Derived.Test.YtnodelimomljbaaPlainOp64
namespace Go.Proofs.Ytnodelimomljbaa.Op64
open Go Go.Sx Go.Sx.Flt Go.Proofs.Ytnodelimomljbaa.RunOp64 Go.Proofs.Ytnodelimomljbaa.PlainOp64

theorem x_ok (w : World) : OracleOk Try.prog ⟨w, fnF⟩ (xOracle xts) := xOracle_ok xtsOk
theorem un_ok (w : World) : unS64.Ok Try.prog ⟨w, fnF⟩ := spec_run Try.call30 (fun w' _ => x_ok w') (fun _ _ => noLoops_ok _ _ _) fnsKnown (noTabs w) unRan rfl (fun _ _ _ _ hp => by cases hp) fun u hk _ => un_plain u hk
theorem bin_ok (w : World) : binS64.Ok Try.prog ⟨w, fnF⟩ := spec_run Try.call32 (fun w' _ => x_ok w') (fun _ _ => noLoops_ok _ _ _) fnsKnown (noTabs w) binRan rfl (fun _ _ _ _ hp => by cases hp) fun u hk _ => bin_plain u hk
theorem aw_ok (w : World) : aw64.Ok Try.prog ⟨w, fnF⟩ := spec_run Try.call34 (fun w' _ => x_ok w') (fun _ _ => noLoops_ok _ _ _) fnsKnown (noTabs w) awRan rfl (fun _ _ _ _ hp => by cases hp) fun u _ _ => aw_plain u
theorem ops_ok (w : World) : OracleOk Try.prog ⟨w, fnF⟩ (orcs (xOracle xts) (specOracle specs64)) := orcs_ok (x_ok w) (specOracle_ok fun sp h => by
  simp only [specs64, List.mem_cons, List.not_mem_nil, or_false] at h
  rcases h with rfl | rfl | rfl
  · exact un_ok w
  · exact bin_ok w
  · exact aw_ok w)
end Go.Proofs.Ytnodelimomljbaa.Op64
