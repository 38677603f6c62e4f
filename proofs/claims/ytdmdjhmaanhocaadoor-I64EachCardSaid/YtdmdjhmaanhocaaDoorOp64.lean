/- The operations' contracts hold. No condition. -/
import Derived.Test.YtdmdjhmaanhocaaDoorPlainOp64
import Derived.Test.YtdmdjhmaanhocaaDoorCon
namespace Go.Proofs.YtdmdjhmaanhocaaDoor.Op64
open Go Go.Sx Go.Sx.Door Go.Proofs.YtdmdjhmaanhocaaDoor.RunOp64 Go.Proofs.YtdmdjhmaanhocaaDoor.PlainOp64 Go.Proofs.YtdmdjhmaanhocaaDoor.Con

variable {w : World} (hg : TabsOk w tab)
include hg
theorem ua_ok : (unSp64 40).Ok Tryd.prog ⟨w, fnT⟩ := spec_run Tryd.call40 (fun _ hx => all_ok (hg.later hx)) (fun _ hx => loops_ok (hg.later hx)) fnsKnown hg uaRan rfl (fun _ _ _ _ hp => by cases hp) fun u _ _ => ua_plain u
theorem ub_ok : (unSp64 41).Ok Tryd.prog ⟨w, fnT⟩ := spec_run Tryd.call41 (fun _ hx => all_ok (hg.later hx)) (fun _ hx => loops_ok (hg.later hx)) fnsKnown hg ubRan rfl (fun _ _ _ _ hp => by cases hp) fun u _ _ => ub_plain u
theorem ba_ok : (binSp64 42).Ok Tryd.prog ⟨w, fnT⟩ := spec_run Tryd.call42 (fun _ hx => all_ok (hg.later hx)) (fun _ hx => loops_ok (hg.later hx)) fnsKnown hg baRan rfl (fun _ _ _ _ hp => by cases hp) fun u hk _ => ba_plain u hk
theorem bb_ok : (binSp64 43).Ok Tryd.prog ⟨w, fnT⟩ := spec_run Tryd.call43 (fun _ hx => all_ok (hg.later hx)) (fun _ hx => loops_ok (hg.later hx)) fnsKnown hg bbRan rfl (fun _ _ _ _ hp => by cases hp) fun u hk _ => bb_plain u hk
theorem ops_ok : OracleOk Tryd.prog ⟨w, fnT⟩ (specOracle ops64) := specOracle_ok fun sp h => by
  simp only [ops64, all, libs, List.cons_append, List.nil_append, List.mem_cons, List.not_mem_nil, or_false] at h
  rcases h with rfl | rfl | rfl | rfl | rfl | rfl | rfl | rfl | rfl | rfl | rfl | rfl | rfl
  · exact aw1_ok hg
  · exact aw2_ok hg
  · exact aw3_ok hg
  · exact lz32_ok hg
  · exact lz64_ok hg
  · exact tz64_ok hg
  · exact oc64_ok hg
  · exact rl32_ok hg
  · exact rl64_ok hg
  · exact ua_ok hg
  · exact ub_ok hg
  · exact ba_ok hg
  · exact bb_ok hg
end Go.Proofs.YtdmdjhmaanhocaaDoor.Op64
