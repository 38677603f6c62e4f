/- The law F64Zeros in numbers alone. No condition. -/
import Derived.Test.YtnodelimomljbaaRunF64Zeros
import Derived.Test.YtnodelimomljbaaPlFltG
import Derived.Test.YtnodelimomljbaaOp64
namespace Go.Proofs.Ytnodelimomljbaa.PlainF64Zeros
open Go Go.Sx Go.Sx.Flt Go.Proofs.Ytnodelimomljbaa.RunF64Zeros Go.Proofs.Ytnodelimomljbaa.Op64
set_option linter.unusedSimpArgs false
set_option linter.unusedVariables false
theorem plain (u : Nat → Int) (h : KindOk u 0 [some .i64, none, none]) : Law ⟨u, fnF⟩ lawR := by
  have hu : -9223372036854775808 ≤ u 0 ∧ u 0 ≤ 9223372036854775807 := of_kind h.1
  have hb := i64_back hu
  have hm : IntKind.i64.wrap 9223372036854775808 = -9223372036854775808 := by decide
  have h0 : IntKind.i64.wrap 0 = 0 := by decide
  have hw : ¬ W64 (u 0) = -1 := by have := (w64_in (u 0)).1; omega
  simp only [lawR, Law, chain, E.prop, E.den, Bi.den, Un.den, and_true, andNot_sign, and_sign, w64_eq, ford64 hu hu, add0_64, addm_64 hu, b2i_ne, beq_iff_eq, decide_eq_true_eq]
  by_cases hn : 9218868437227405312 < u 0 % 9223372036854775808
  · simp [hn, b2i]
  · by_cases hz : u 0 % 9223372036854775808 = 0
    · by_cases hs : u 0 < 0
      · simp [hn, hz, hs, hw, hb, hm, h0, b2i] <;> omega
      · simp [hn, hz, hs, hw, hb, hm, h0, b2i] <;> omega
    · simp [hn, hz, hw, hb, hm, h0, b2i]
end Go.Proofs.Ytnodelimomljbaa.PlainF64Zeros
