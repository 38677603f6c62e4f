/- The contract of f32n.Bin holds. No condition. -/
import Derived.Test.YtnodelimomljbaaPlainOp32
namespace Go.Proofs.Ytnodelimomljbaa.Op32
open Go Go.Sx Go.Sx.Flt Go.Proofs.Ytnodelimomljbaa.RunOp32 Go.Proofs.Ytnodelimomljbaa.PlainOp32

theorem x_ok (w : World) : OracleOk Try.prog ⟨w, fnF⟩ (xOracle xts) := xOracle_ok xtsOk
theorem bin_ok (w : World) : binS32.Ok Try.prog ⟨w, fnF⟩ := spec_run Try.call37 (fun w' _ => x_ok w') (fun _ _ => noLoops_ok _ _ _) fnsKnown (noTabs w) binRan rfl (fun _ _ _ _ hp => by cases hp) fun u hk _ => bin_plain u hk
theorem aw_ok (w : World) : aw32.Ok Try.prog ⟨w, fnF⟩ := spec_run Try.call39 (fun w' _ => x_ok w') (fun _ _ => noLoops_ok _ _ _) fnsKnown (noTabs w) awRan rfl (fun _ _ _ _ hp => by cases hp) fun u _ _ => aw_plain u
theorem ops_ok (w : World) : OracleOk Try.prog ⟨w, fnF⟩ (orcs (xOracle xts) (specOracle specs32)) := orcs_ok (x_ok w) (specOracle_ok fun sp h => by
  simp only [specs32, List.mem_cons, List.not_mem_nil, or_false] at h
  rcases h with rfl | rfl
  · exact bin_ok w
  · exact aw_ok w)
end Go.Proofs.Ytnodelimomljbaa.Op32
