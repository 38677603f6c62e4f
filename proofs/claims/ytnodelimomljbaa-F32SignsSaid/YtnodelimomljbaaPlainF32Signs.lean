/- The law F32Signs in numbers alone. No condition. -/
import Derived.Test.YtnodelimomljbaaRunF32Signs
import Derived.Test.YtnodelimomljbaaPlFltJ
import Derived.Test.YtnodelimomljbaaOp32
namespace Go.Proofs.Ytnodelimomljbaa.PlainF32Signs
open Go Go.Sx Go.Sx.Flt Go.Proofs.Ytnodelimomljbaa.RunF32Signs Go.Proofs.Ytnodelimomljbaa.Op32
set_option linter.unusedSimpArgs false
set_option linter.unusedVariables false
theorem plain (u : Nat → Int) (h : KindOk u 0 [some .i64, some .i64]) : Law ⟨u, fnF⟩ lawR := by
  have hx := w32_in (u 0)
  have hy := w32_in (u 1)
  have t : topF .f32 = 4294967295 := rfl
  rw [t] at hx hy
  simp only [lawR, Law, chain, E.prop, E.den, Bi.den, Un.den, and_true, w32_eq]
  generalize W32 (u 0) = X at *
  generalize W32 (u 1) = Y at *
  have e1 := andNot32 (x := X) (by omega)
  have e2 := xor32 (x := X) (by omega)
  have e3 := and32 (x := Y) (by omega)
  have w : ∀ z : Int, 0 ≤ z → z < 4294967296 → W32 z = z := fun z h1 h2 => by unfold W32; omega
  have e4 := or32 (x := X % 2147483648) (s := if Y < 2147483648 then 0 else 2147483648) (by omega) (by split <;> simp)
  have e5 : bitI .andNot .i64 (X % 2147483648) 2147483648 = X % 2147483648 := by rw [andNot32 (by omega)]; omega
  have w1 : W32 (X % 2147483648) = X % 2147483648 := w _ (by omega) (by omega)
  have w2 : W32 (if X < 2147483648 then X + 2147483648 else X - 2147483648) = if X < 2147483648 then X + 2147483648 else X - 2147483648 := w _ (by split <;> omega) (by split <;> omega)
  have w3 : W32 (X % 2147483648 + if Y < 2147483648 then 0 else 2147483648) = X % 2147483648 + if Y < 2147483648 then 0 else 2147483648 := w _ (by split <;> omega) (by split <;> omega)
  simp [e1, e2, e3, e4, e5, w1, w2, w3]
end Go.Proofs.Ytnodelimomljbaa.PlainF32Signs
