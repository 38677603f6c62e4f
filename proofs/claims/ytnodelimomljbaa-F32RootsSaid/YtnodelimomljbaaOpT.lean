/- The whole contract of f32n.Bin holds. No condition. -/
import Derived.Test.YtnodelimomljbaaPlainOpT
import Derived.Test.YtnodelimomljbaaOp32
namespace Go.Proofs.Ytnodelimomljbaa.OpT
open Go Go.Sx Go.Sx.Flt Go.Proofs.Ytnodelimomljbaa.RunOpT Go.Proofs.Ytnodelimomljbaa.PlainOpT

theorem bin_ok (w : World) : binT32.Ok Try.prog ⟨w, fnF⟩ := spec_run Try.call37 (fun w' _ => Op32.x_ok w') (fun _ _ => noLoops_ok _ _ _) fnsKnown (noTabs w) binRan rfl (fun u _ _ p hp => by
  simp only [binT32, List.mem_singleton] at hp
  subst hp
  have h := bT u
  have e : binTV32.den ⟨u, fnF⟩ = (selF binT32L (.lit 0) (u 0)).den ⟨u, fnF⟩ := den_sel _ _ _
  rw [← e] at h
  exact ⟨fun _ h' => by cases h'; exact h.1, fun _ h' => by cases h'; exact h.2⟩) fun u hk _ => bin_plain u hk
theorem ops_ok (w : World) : OracleOk Try.prog ⟨w, fnF⟩ (orcs (xOracle xts) (specOracle specsT32)) := orcs_ok (Op32.x_ok w) (specOracle_ok fun sp h => by
  simp only [specsT32, List.mem_cons, List.not_mem_nil, or_false] at h
  rcases h with rfl | rfl
  · exact bin_ok w
  · exact Op32.aw_ok w)
end Go.Proofs.Ytnodelimomljbaa.OpT
