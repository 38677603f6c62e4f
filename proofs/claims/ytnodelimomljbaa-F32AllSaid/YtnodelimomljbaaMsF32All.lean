/- The runs of a law and what they come to. No condition. -/
import Derived.Test.YtnodelimomljbaaMsb
import Derived.Test.YtnodelimomljbaaMsc
import Derived.KernelRfl
import Derived.Test.YtnodelimomljbaaMsf

/- The ways of the code through numbers, and that the code takes no other. No condition. -/
namespace Go.Proofs.Ytnodelimomljbaa.RunF32All
open Go Go.Sx Go.Sx.Flt Go.Sx.Ref

def lawR : List Leaf := [
  ([], (.bool (.lit 1)))]
set_option maxRecDepth 100000 in
theorem lawRan : runOf Try.prog (orcs (xOracle xts) (specOracle specsA32)) noLoops (bodies fns) [] 4000 17 [some .i64, some .i64, some .i64] [] = some lawR := by kernel_rfl
end Go.Proofs.Ytnodelimomljbaa.RunF32All

/- The law F32All in numbers alone: the code's own tests leave one way, and it answers true. No condition. -/
namespace Go.Proofs.Ytnodelimomljbaa.PlainF32All
open Go Go.Sx Go.Sx.Flt Go.Sx.Ref Go.Proofs.Ytnodelimomljbaa.RunF32All Go.Proofs.Ytnodelimomljbaa.RefB3
theorem plain (u : Nat → Int) (_hk : KindOk u 0 [some .i64, some .i64, some .i64]) : Law ⟨u, fnF⟩ lawR := by
  simp [lawR, Law, chain, E.prop, E.den]
end Go.Proofs.Ytnodelimomljbaa.PlainF32All
