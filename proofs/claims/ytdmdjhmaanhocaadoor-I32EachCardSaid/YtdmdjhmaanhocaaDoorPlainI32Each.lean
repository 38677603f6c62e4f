/- The law I32Each in numbers alone: the code's own tests leave one way, and it answers true. No condition. -/
import Derived.Test.YtdmdjhmaanhocaaDoorRunI32Each
import Derived.Test.YtdmdjhmaanhocaaDoorOp32
namespace Go.Proofs.YtdmdjhmaanhocaaDoor.PlainI32Each
open Go Go.Sx Go.Sx.Door Go.Proofs.YtdmdjhmaanhocaaDoor.RunI32Each Go.Proofs.YtdmdjhmaanhocaaDoor.Con Go.Proofs.YtdmdjhmaanhocaaDoor.Op32
theorem plain (u : Nat → Int) (_hk : KindOk u 0 [some .i64, some .i64]) : Law ⟨u, fnT⟩ lawR := by
  simp [lawR, Law, chain, E.prop, E.den]
theorem each_plain (u : Nat → Int) : LKeeps ⟨u, fnT⟩ each32 eachLR := by
  simp only [each32, eachLR, LKeeps, chain, allProp, allSame, SameL, List.map, E.at, le, v, E.prop, E.den, mkBin, Bi.den, List.getD_cons_zero, List.getD_cons_succ]
  refine ⟨fun h1 h2 h3 => ?_, fun h1 h2 h3 => ?_, trivial⟩
  · exact ⟨⟨by omega, by omega, trivial⟩, ⟨trivial, trivial⟩, by omega, by omega⟩
  · exact ⟨trivial, by omega, trivial⟩
variable {w : World} (hg : TabsOk w tab)
include hg
theorem each_ok : each32.Ok Tryd.prog ⟨w, fnT⟩ (bodies fns) := lspec_run (fun _ hx => ops_ok (hg.later hx)) (fun _ hx => loops_ok (hg.later hx)) fnsKnown hg eachLRan rfl fun u _ _ => each_plain u
theorem eachs_ok : LoopsOk Tryd.prog ⟨w, fnT⟩ (bodies fns) (loopOracle (each32 :: lspecs)) := loopOracle_ok fun sp h => by
  simp only [lspecs, List.mem_cons, List.not_mem_nil, or_false] at h
  rcases h with rfl | rfl | rfl | rfl | rfl
  · exact each_ok hg
  · exact clz_ok hg
  · exact ctz_ok hg
  · exact pop_ok hg
  · exact rot_ok hg
end Go.Proofs.YtdmdjhmaanhocaaDoor.PlainI32Each
