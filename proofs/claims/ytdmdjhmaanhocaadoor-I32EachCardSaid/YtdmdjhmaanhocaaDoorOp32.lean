/- The operations' contracts of 32 bits hold. No condition. -/
import Derived.Test.YtdmdjhmaanhocaaDoorPlainOp32
import Derived.Test.YtdmdjhmaanhocaaDoorCon
namespace Go.Proofs.YtdmdjhmaanhocaaDoor.Op32
open Go Go.Sx Go.Sx.Door Go.Proofs.YtdmdjhmaanhocaaDoor.RunOp32 Go.Proofs.YtdmdjhmaanhocaaDoor.PlainOp32 Go.Proofs.YtdmdjhmaanhocaaDoor.Con

variable {w : World} (hg : TabsOk w tab)
include hg
theorem sg_ok : sign32.Ok Tryd.prog ⟨w, fnT⟩ := spec_run Tryd.call35 (fun _ hx => all_ok (hg.later hx)) (fun _ hx => loops_ok (hg.later hx)) fnsKnown hg sgRan rfl (fun _ _ _ _ hp => by cases hp) fun u _ _ => sg_plain u
theorem all32_ok : OracleOk Tryd.prog ⟨w, fnT⟩ (specOracle all32) := specOracle_ok fun sp h => by
  simp only [all32, all, libs, List.cons_append, List.nil_append, List.mem_cons, List.not_mem_nil, or_false] at h
  rcases h with rfl | rfl | rfl | rfl | rfl | rfl | rfl | rfl | rfl | rfl
  · exact aw1_ok hg
  · exact aw2_ok hg
  · exact aw3_ok hg
  · exact lz32_ok hg
  · exact lz64_ok hg
  · exact tz64_ok hg
  · exact oc64_ok hg
  · exact rl32_ok hg
  · exact rl64_ok hg
  · exact sg_ok hg
theorem ua_ok : (unSp32 46).Ok Tryd.prog ⟨w, fnT⟩ := spec_run Tryd.call46 (fun _ hx => all32_ok (hg.later hx)) (fun _ hx => loops_ok (hg.later hx)) fnsKnown hg uaRan rfl (fun _ _ _ _ hp => by cases hp) fun u _ _ => ua_plain u
theorem ub_ok : (unSp32 47).Ok Tryd.prog ⟨w, fnT⟩ := spec_run Tryd.call47 (fun _ hx => all32_ok (hg.later hx)) (fun _ hx => loops_ok (hg.later hx)) fnsKnown hg ubRan rfl (fun _ _ _ _ hp => by cases hp) fun u _ _ => ub_plain u
theorem ba_ok : (binSp32 48).Ok Tryd.prog ⟨w, fnT⟩ := spec_run Tryd.call48 (fun _ hx => all32_ok (hg.later hx)) (fun _ hx => loops_ok (hg.later hx)) fnsKnown hg baRan rfl (fun _ _ _ _ hp => by cases hp) fun u _ _ => ba_plain u
theorem bb_ok : (binSp32 49).Ok Tryd.prog ⟨w, fnT⟩ := spec_run Tryd.call49 (fun _ hx => all32_ok (hg.later hx)) (fun _ hx => loops_ok (hg.later hx)) fnsKnown hg bbRan rfl (fun _ _ _ _ hp => by cases hp) fun u _ _ => bb_plain u
theorem ops_ok : OracleOk Tryd.prog ⟨w, fnT⟩ (specOracle ops32) := specOracle_ok fun sp h => by
  simp only [ops32, all32, all, libs, List.cons_append, List.nil_append, List.mem_cons, List.not_mem_nil, or_false] at h
  rcases h with rfl | rfl | rfl | rfl | rfl | rfl | rfl | rfl | rfl | rfl | rfl | rfl | rfl | rfl
  · exact aw1_ok hg
  · exact aw2_ok hg
  · exact aw3_ok hg
  · exact lz32_ok hg
  · exact lz64_ok hg
  · exact tz64_ok hg
  · exact oc64_ok hg
  · exact rl32_ok hg
  · exact rl64_ok hg
  · exact sg_ok hg
  · exact ua_ok hg
  · exact ub_ok hg
  · exact ba_ok hg
  · exact bb_ok hg
end Go.Proofs.YtdmdjhmaanhocaaDoor.Op32
