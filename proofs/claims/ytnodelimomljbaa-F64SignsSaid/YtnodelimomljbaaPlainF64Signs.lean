/- The law F64Signs in numbers alone. No condition. -/
import Derived.Test.YtnodelimomljbaaRunF64Signs
import Derived.Test.YtnodelimomljbaaPlFltG
import Derived.Test.YtnodelimomljbaaOp64
namespace Go.Proofs.Ytnodelimomljbaa.PlainF64Signs
open Go Go.Sx Go.Sx.Flt Go.Proofs.Ytnodelimomljbaa.RunF64Signs Go.Proofs.Ytnodelimomljbaa.Op64
set_option linter.unusedSimpArgs false
set_option linter.unusedVariables false
theorem plain (u : Nat → Int) (_h : KindOk u 0 [some .i64, some .i64]) : Law ⟨u, fnF⟩ lawR := by
  simp only [lawR, Law, chain, E.prop, E.den, Bi.den, and_true, andNot_sign]
  rw [Int.emod_emod]
end Go.Proofs.Ytnodelimomljbaa.PlainF64Signs
