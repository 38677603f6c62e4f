/- The law F32Zeros in numbers alone. No condition. -/
import Derived.Test.YtnodelimomljbaaRunF32Zeros
import Derived.Test.YtnodelimomljbaaPlFltJ
import Derived.Test.YtnodelimomljbaaOp32
namespace Go.Proofs.Ytnodelimomljbaa.PlainF32Zeros
open Go Go.Sx Go.Sx.Flt Go.Proofs.Ytnodelimomljbaa.RunF32Zeros Go.Proofs.Ytnodelimomljbaa.Op32
set_option linter.unusedSimpArgs false
set_option linter.unusedVariables false
theorem plain (u : Nat → Int) (h : KindOk u 0 [some .i64, none, none]) : Law ⟨u, fnF⟩ lawR := by
  have hw : ¬ W32 (u 0) = -1 := by have := (w32_in (u 0)).1; omega
  have hx := w32_in (u 0)
  have t : topF .f32 = 4294967295 := rfl
  rw [t] at hx
  have ha : bitI .andNot .i64 (W32 (u 0)) 2147483648 = u 0 % 2147483648 := by
    rw [andNot32 (by omega)]; unfold W32; omega
  have hb : bitI .and .i64 (W32 (u 0)) 2147483648 = if 2147483648 ≤ W32 (u 0) then 2147483648 else 0 := by
    rw [and32 (by omega)]; split <;> split <;> omega
  simp only [lawR, Law, chain, E.prop, E.den, Bi.den, Un.den, and_true, w32_eq, w32_w, ha, hb, ford32 (u 0) (u 0), add0_32, addm_32, b2i_ne, beq_iff_eq, decide_eq_true_eq]
  by_cases hn : 2139095040 < u 0 % 2147483648
  · simp [hn, b2i]
  · by_cases hz : u 0 % 2147483648 = 0
    · have e : W32 (u 0) = u 0 % 4294967296 := rfl
      by_cases hs : 2147483648 ≤ W32 (u 0)
      · have e2 : W32 (u 0) = 2147483648 := by omega
        simp [hn, hz, hs, hw, e2, b2i]
      · have e2 : W32 (u 0) = 0 := by omega
        simp [hn, hz, hs, hw, e2, b2i]
    · simp [hn, hz, hw, b2i]
end Go.Proofs.Ytnodelimomljbaa.PlainF32Zeros
