/- The runs of a law and what they come to. No condition. -/
import Derived.Test.YtnodelimomljbaaMgb
import Derived.Test.YtnodelimomljbaaMgf
import Derived.KernelRfl

/- The ways of the code through numbers, and that the code takes no other. No condition. -/
namespace Go.Proofs.Ytnodelimomljbaa.RunF64All
open Go Go.Sx Go.Sx.Flt Go.Sx.Ref

def lawR : List Leaf := [
  ([], (.bool (.lit 1)))]
set_option maxRecDepth 100000 in
theorem lawRan : runOf Try.prog (orcs (xOracle xts) (specOracle specsA64)) noLoops (bodies fns) [] 4000 7 [some .i64, some .i64, some .i64] [] = some lawR := by kernel_rfl
end Go.Proofs.Ytnodelimomljbaa.RunF64All

/- The law F64All in numbers alone: the code's own tests leave one way, and it answers true. No condition. -/
namespace Go.Proofs.Ytnodelimomljbaa.PlainF64All
open Go Go.Sx Go.Sx.Flt Go.Sx.Ref Go.Proofs.Ytnodelimomljbaa.RunF64All Go.Proofs.Ytnodelimomljbaa.OpA64
theorem plain (u : Nat → Int) (_hk : KindOk u 0 [some .i64, some .i64, some .i64]) : Law ⟨u, fnF⟩ lawR := by
  simp [lawR, Law, chain, E.prop, E.den]
end Go.Proofs.Ytnodelimomljbaa.PlainF64All
