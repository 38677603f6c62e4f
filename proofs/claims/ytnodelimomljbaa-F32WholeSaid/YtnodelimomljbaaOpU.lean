/- The contract of f32n.Un holds. No condition. -/
import Derived.Test.YtnodelimomljbaaPlainOpU
import Derived.Test.YtnodelimomljbaaOpT
namespace Go.Proofs.Ytnodelimomljbaa.OpU
open Go Go.Sx Go.Sx.Flt Go.Proofs.Ytnodelimomljbaa.RunOpU Go.Proofs.Ytnodelimomljbaa.PlainOpU

theorem un_ok (w : World) : unT32.Ok Try.prog ⟨w, fnF⟩ := spec_run Try.call35 (fun w' _ => Op32.x_ok w') (fun _ _ => noLoops_ok _ _ _) fnsKnown (noTabs w) unRan rfl (fun u _ _ p hp => by
  simp only [unT32, List.mem_singleton] at hp
  subst hp
  have h := uT u
  have e : unTV32.den ⟨u, fnF⟩ = (selF unT32L (.lit 0) (u 0)).den ⟨u, fnF⟩ := den_sel _ _ _
  rw [← e] at h
  exact ⟨fun _ h' => by cases h'; exact h.1, fun _ h' => by cases h'; exact h.2⟩) fun u hk _ => un_plain u hk
theorem ops_ok (w : World) : OracleOk Try.prog ⟨w, fnF⟩ (orcs (xOracle xts) (specOracle specsU32)) := orcs_ok (Op32.x_ok w) (specOracle_ok fun sp h => by
  simp only [specsU32, List.mem_cons, List.not_mem_nil, or_false] at h
  rcases h with rfl | rfl | rfl
  · exact un_ok w
  · exact OpT.bin_ok w
  · exact Op32.aw_ok w)
end Go.Proofs.Ytnodelimomljbaa.OpU
