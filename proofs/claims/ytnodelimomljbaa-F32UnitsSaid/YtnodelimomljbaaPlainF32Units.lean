/- The law F32Units in numbers alone. No condition. -/
import Derived.Test.YtnodelimomljbaaRunF32Units
import Derived.Test.YtnodelimomljbaaPlFltJ
import Derived.Test.YtnodelimomljbaaOp32
namespace Go.Proofs.Ytnodelimomljbaa.PlainF32Units
open Go Go.Sx Go.Sx.Flt Go.Proofs.Ytnodelimomljbaa.RunF32Units Go.Proofs.Ytnodelimomljbaa.Op32
set_option linter.unusedSimpArgs false
set_option linter.unusedVariables false
theorem plain (u : Nat → Int) (h : KindOk u 0 [some .i64]) : Law ⟨u, fnF⟩ lawR := by
  have hw : ¬ W32 (u 0) = -1 := by have := (w32_in (u 0)).1; omega
  have hx := w32_in (u 0)
  have t : topF .f32 = 4294967295 := rfl
  rw [t] at hx
  have ha : bitI .andNot .i64 (W32 (u 0)) 2147483648 = u 0 % 2147483648 := by
    rw [andNot32 (by omega)]; unfold W32; omega
  simp only [lawR, Law, chain, E.prop, E.den, Bi.den, Un.den, and_true, w32_eq, w32_w, ha, ford32 (u 0) (u 0), mul1_32, div1_32, sub0_32, divs_32, b2i_ne, beq_iff_eq, decide_eq_true_eq]
  by_cases hn : 2139095040 < u 0 % 2147483648
  · have n1 : ¬ u 0 % 2147483648 < 2139095040 := by omega
    simp [hn, n1]
  · by_cases hi : u 0 % 2147483648 = 2139095040
    · simp [hn, hi, hw, b2i] <;> omega
    · have n1 : u 0 % 2147483648 < 2139095040 := by omega
      by_cases hz : u 0 % 2147483648 = 0
      · simp [hn, hi, n1, hz, hw, b2i] <;> omega
      · simp [hn, hi, n1, hz, hw, b2i] <;> omega
end Go.Proofs.Ytnodelimomljbaa.PlainF32Units
