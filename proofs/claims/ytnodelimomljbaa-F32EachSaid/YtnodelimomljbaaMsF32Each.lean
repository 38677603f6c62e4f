/- The runs of a law and what they come to. No condition. -/
import Derived.Test.YtnodelimomljbaaMsb
import Derived.Test.YtnodelimomljbaaMsc
import Derived.KernelRfl
import Derived.Test.YtnodelimomljbaaMsf

/- The ways of the code through numbers, and that the code takes no other. No condition. -/
namespace Go.Proofs.Ytnodelimomljbaa.RunF32Each
open Go Go.Sx Go.Sx.Flt Go.Sx.Ref

def eachLR : List LL := [
  .cont [(.bin .lt (.var 2) (.lit 168)), (.bin .le (.lit 88) (.var 2)), (.bin .le (.var 2) (.lit 168))] [(.var 0), (.var 1), (.bin .add (.var 2) (.lit 1))],
  .out [(.bin .le (.lit 168) (.var 2)), (.bin .le (.lit 88) (.var 2)), (.bin .le (.var 2) (.lit 168))] [(.int .i64 (.var 2))]]
set_option maxRecDepth 100000 in
theorem eachLRan : lrunOf Try.prog (orcs (xOracle xts) (specOracle specsA32)) noLoops (bodies fns) [] 4000 each32F = some eachLR := by kernel_rfl
def lawR : List Leaf := [
  ([], (.bool (.lit 1)))]
set_option maxRecDepth 100000 in
theorem lawRan : runOf Try.prog (orcs (xOracle xts) (specOracle specsA32)) (loopOracle [each32F]) (bodies fns) [] 4000 18 [some .i64, some .i64] [] = some lawR := by kernel_rfl
end Go.Proofs.Ytnodelimomljbaa.RunF32Each

/- The law F32Each in numbers alone: the code's own tests leave one way, and it answers true. No condition. -/
namespace Go.Proofs.Ytnodelimomljbaa.PlainF32Each
open Go Go.Sx Go.Sx.Flt Go.Sx.Ref Go.Proofs.Ytnodelimomljbaa.RunF32Each Go.Proofs.Ytnodelimomljbaa.RefB3
theorem plain (u : Nat → Int) (_hk : KindOk u 0 [some .i64, some .i64]) : Law ⟨u, fnF⟩ lawR := by
  simp [lawR, Law, chain, E.prop, E.den]
theorem each_plain (u : Nat → Int) : LKeeps ⟨u, fnF⟩ each32F eachLR := by
  simp only [each32F, each64F, eachLR, LKeeps, chain, allProp, allSame, SameL, List.map, E.at, bi, v, E.prop, E.den, mkBin, Bi.den, List.getD_cons_zero, List.getD_cons_succ]
  refine ⟨fun h1 h2 h3 => ?_, fun h1 h2 h3 => ?_, trivial⟩
  · exact ⟨⟨by omega, by omega, trivial⟩, ⟨trivial, trivial⟩, by omega, by omega⟩
  · exact ⟨trivial, by omega, trivial⟩
theorem each_ok (w : World) : each32F.Ok Try.prog ⟨w, fnF⟩ (bodies fns) := lspec_run (fun w' _ => ops_ok w') (fun _ _ => noLoops_ok _ _ _) fnsKnown (noTabs w) eachLRan rfl fun u _ _ => each_plain u
theorem eachs_ok (w : World) : LoopsOk Try.prog ⟨w, fnF⟩ (bodies fns) (loopOracle [each32F]) := loopOracle_ok fun sp h => by
  cases List.mem_singleton.1 h; exact each_ok w
end Go.Proofs.Ytnodelimomljbaa.PlainF32Each
