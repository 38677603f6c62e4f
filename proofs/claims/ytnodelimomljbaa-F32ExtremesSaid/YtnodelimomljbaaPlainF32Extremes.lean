/- The law F32Extremes in numbers alone. No condition. -/
import Derived.Test.YtnodelimomljbaaRunF32Extremes
import Derived.Test.YtnodelimomljbaaPlFltK
import Derived.Test.YtnodelimomljbaaOpT
namespace Go.Proofs.Ytnodelimomljbaa.PlainF32Extremes
open Go Go.Sx Go.Sx.Flt Go.Proofs.Ytnodelimomljbaa.RunF32Extremes Go.Proofs.Ytnodelimomljbaa.OpT
set_option linter.unusedSimpArgs false
set_option linter.unusedVariables false
theorem plain (u : Nat → Int) (h : KindOk u 0 [some .i64, some .i64]) : Law ⟨u, fnF⟩ lawR := by
  have hX := w32_in (u 0)
  have hY := w32_in (u 1)
  simp only [lawR, Law, chain, E.prop, E.den, Bi.den, Un.den, and_true, w32_eq, w32_w, b2i_ne, beq_iff_eq, decide_eq_true_eq]
  have w : ∀ z : Int, 0 ≤ z ∧ z ≤ topF .f32 → W32 z = z := fun z h => by
    have t : topF .f32 = 4294967295 := rfl
    rw [t] at h; unfold W32; omega
  generalize W32 (u 0) = X at *
  generalize W32 (u 1) = Y at *
  have wX := w X hX
  have wY := w Y hY
  have oX : fordI .f32 X X = if kI .f32 < mg .f32 X then 3 else 0 := by
    rw [ford_eq hX hX]; by_cases hn : kI .f32 < mg .f32 X <;> simp [hn]
  have oY : fordI .f32 Y Y = if kI .f32 < mg .f32 Y then 3 else 0 := by
    rw [ford_eq hY hY]; by_cases hn : kI .f32 < mg .f32 Y <;> simp [hn]
  by_cases hn : kI .f32 < mg .f32 X
  · by_cases hm : kI .f32 < mg .f32 Y
    · simp [hn, hm, oX, oY, b2i]
    · simp [hn, hm, oX, oY, b2i]
  · by_cases hm : kI .f32 < mg .f32 Y
    · simp [hn, hm, oX, oY, b2i]
    · have e1 := pick32 true hX hY (by omega) (by omega)
      have e2 := pick32 false hX hY (by omega) (by omega)
      have e3 := pick32 false hY hX (by omega) (by omega)
      rw [if_pos rfl] at e1
      simp only [Bool.false_eq_true, if_false] at e2 e3
      have zx : kz .f32 X = if kM .f32 ≤ X then kM .f32 - X - 1 else X := rfl
      have zy : kz .f32 Y = if kM .f32 ≤ Y then kM .f32 - Y - 1 else Y := rfl
      have lx : ky .f32 X = if kM .f32 ≤ X then kM .f32 - X else X := rfl
      have ly : ky .f32 Y = if kM .f32 ≤ Y then kM .f32 - Y else Y := rfl
      rw [kM32] at zx zy lx ly
      have kinj : kz .f32 X = kz .f32 Y → X = Y := fun hh => by
        by_cases sx : 2147483648 ≤ X <;> by_cases sy : 2147483648 ≤ Y <;> simp only [sx, sy, if_true, if_false] at zx zy <;> omega
      have kle1 : kz .f32 X ≤ kz .f32 Y → ky .f32 X ≤ ky .f32 Y := fun hh => by
        by_cases sx : 2147483648 ≤ X <;> by_cases sy : 2147483648 ≤ Y <;> simp only [sx, sy, if_true, if_false] at zx zy lx ly <;> omega
      have kle2 : kz .f32 Y ≤ kz .f32 X → ky .f32 Y ≤ ky .f32 X := fun hh => by
        by_cases sx : 2147483648 ≤ X <;> by_cases sy : 2147483648 ≤ Y <;> simp only [sx, sy, if_true, if_false] at zx zy lx ly <;> omega
      have fXY : kz .f32 X ≤ kz .f32 Y → fordI .f32 X Y ≤ 1 := fun hh => by
        have := kle1 hh
        rw [ford_eq hX hY, if_neg (by omega)]
        by_cases h1 : ky .f32 X = ky .f32 Y
        · rw [if_pos h1]; omega
        · rw [if_neg h1, if_pos (by omega)]; omega
      have fYX : kz .f32 Y ≤ kz .f32 X → fordI .f32 Y X ≤ 1 := fun hh => by
        have := kle2 hh
        rw [ford_eq hY hX, if_neg (by omega)]
        by_cases h1 : ky .f32 Y = ky .f32 X
        · rw [if_pos h1]; omega
        · rw [if_neg h1, if_pos (by omega)]; omega
      rcases Int.lt_trichotomy (kz .f32 X) (kz .f32 Y) with hc | hc | hc
      · rw [if_pos hc] at e1
        rw [if_neg (by omega)] at e2
        rw [if_pos hc] at e3
        have := fXY (by omega)
        simp [hn, hm, oX, oY, e1, e2, e3, wX, wY, b2i, this]
      · have hxy := kinj hc
        subst hxy
        rw [if_neg (by omega)] at e1
        rw [if_neg (by omega)] at e2
        rw [if_neg (by omega)] at e3
        have := fXY (by omega)
        simp [hn, hm, oX, oY, e1, e2, e3, wX, wY, b2i, this]
      · rw [if_neg (by omega)] at e1
        rw [if_pos hc] at e2
        rw [if_neg (by omega)] at e3
        have := fYX (by omega)
        simp [hn, hm, oX, oY, e1, e2, e3, wX, wY, b2i, this]
end Go.Proofs.Ytnodelimomljbaa.PlainF32Extremes
