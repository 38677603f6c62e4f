/- The law F64Units in numbers alone. No condition. -/
import Derived.Test.YtnodelimomljbaaRunF64Units
import Derived.Test.YtnodelimomljbaaPlFltG
import Derived.Test.YtnodelimomljbaaOp64
namespace Go.Proofs.Ytnodelimomljbaa.PlainF64Units
open Go Go.Sx Go.Sx.Flt Go.Proofs.Ytnodelimomljbaa.RunF64Units Go.Proofs.Ytnodelimomljbaa.Op64
set_option linter.unusedSimpArgs false
set_option linter.unusedVariables false
theorem plain (u : Nat → Int) (h : KindOk u 0 [some .i64]) : Law ⟨u, fnF⟩ lawR := by
  have hu : -9223372036854775808 ≤ u 0 ∧ u 0 ≤ 9223372036854775807 := of_kind h.1
  have hb := i64_back hu
  have h1 : IntKind.i64.wrap 4607182418800017408 = 4607182418800017408 := by decide
  have hw : ¬ W64 (u 0) = -1 := by have := (w64_in (u 0)).1; omega
  simp only [lawR, Law, chain, E.prop, E.den, Bi.den, Un.den, and_true, andNot_sign, w64_eq, ford64 hu hu, mul1_64, div1_64, sub0_64, divs_64, b2i_ne, beq_iff_eq, decide_eq_true_eq]
  by_cases hn : 9218868437227405312 < u 0 % 9223372036854775808
  · have n1 : ¬ u 0 % 9223372036854775808 < 9218868437227405312 := by omega
    simp [hn, n1]
  · by_cases hi : u 0 % 9223372036854775808 = 9218868437227405312
    · simp [hn, hi, hw, hb, b2i] <;> omega
    · have n1 : u 0 % 9223372036854775808 < 9218868437227405312 := by omega
      by_cases hz : u 0 % 9223372036854775808 = 0
      · simp [hn, hi, n1, hz, hw, hb, b2i] <;> omega
      · simp [hn, hi, n1, hz, hw, hb, h1, b2i] <;> omega
end Go.Proofs.Ytnodelimomljbaa.PlainF64Units
