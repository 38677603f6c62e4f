/- The law F32Rules in numbers alone. No condition. -/
import Derived.Test.YtnodelimomljbaaRunF32Rules
import Derived.Test.YtnodelimomljbaaPlFltK
import Derived.Test.YtnodelimomljbaaOpT
namespace Go.Proofs.Ytnodelimomljbaa.PlainF32Rules
open Go Go.Sx Go.Sx.Flt Go.Proofs.Ytnodelimomljbaa.RunF32Rules Go.Proofs.Ytnodelimomljbaa.OpT
set_option linter.unusedSimpArgs false
set_option linter.unusedVariables false
theorem plain (u : Nat → Int) (h : KindOk u 0 [some .i64, some .i64]) : Law ⟨u, fnF⟩ lawR := by
  have hX := w32_in (u 0)
  have hY := w32_in (u 1)
  have hac := far_add_comm .f32 (W32 (u 1)) (W32 (u 0))
  have hmc := far_mul_comm .f32 (W32 (u 1)) (W32 (u 0))
  simp only [lawR, Law, chain, E.prop, E.den, Bi.den, Un.den, and_true, w32_eq, w32_w, hac, hmc, b2i_ne, beq_iff_eq, decide_eq_true_eq]
  clear hac hmc
  have w : ∀ z : Int, 0 ≤ z → z < 4294967296 → W32 z = z := fun z h1 h2 => by unfold W32; omega
  generalize W32 (u 0) = X at *
  generalize W32 (u 1) = Y at *
  have t : topF .f32 = 4294967295 := rfl
  have hX' := hX
  rw [t] at hX'
  have x1 := xor32 (x := X) (by omega)
  have T0 : 0 ≤ (if X < 2147483648 then X + 2147483648 else X - 2147483648) ∧ (if X < 2147483648 then X + 2147483648 else X - 2147483648) < 4294967296 := by split <;> omega
  have x2 : W32 (bitI .xor .i64 X 2147483648) = if X < 2147483648 then X + 2147483648 else X - 2147483648 := by rw [x1]; exact w _ T0.1 T0.2
  have xx : W32 (bitI .xor .i64 (W32 (bitI .xor .i64 X 2147483648)) 2147483648) = X := by
    rw [x2, xor32 T0]
    by_cases hs : X < 2147483648
    · rw [if_pos hs, if_neg (by omega), w _ (by omega) (by omega)]; omega
    · rw [if_neg hs, if_pos (by omega), w _ (by omega) (by omega)]; omega
  have cc : W32 (bitI .or .i64 (bitI .andNot .i64 X 2147483648) (bitI .and .i64 (W32 (bitI .xor .i64 X 2147483648)) 2147483648)) = W32 (bitI .xor .i64 X 2147483648) := by
    rw [x2, andNot32 (by omega), and32 T0, or32 (by omega) (by generalize (if X < 2147483648 then X + 2147483648 else X - 2147483648) = z; split <;> simp)]
    by_cases hs : X < 2147483648
    · rw [if_pos hs, if_neg (by omega), w _ (by omega) (by omega)]; omega
    · rw [if_neg hs, if_pos (by omega), w _ (by omega) (by omega)]; omega
  have oX : fordI .f32 X X = if kI .f32 < mg .f32 X then 3 else 0 := by
    rw [ford_eq hX hX]; by_cases hn : kI .f32 < mg .f32 X <;> simp [hn]
  have oY : fordI .f32 Y Y = if kI .f32 < mg .f32 Y then 3 else 0 := by
    rw [ford_eq hY hY]; by_cases hn : kI .f32 < mg .f32 Y <;> simp [hn]
  have sX := far_sub_self hX
  have n1 : kI .f32 < mg .f32 X → ∀ op, farI op .f32 X Y = -1 := fun hh op => far_nan hX hY (.inl hh)
  have pc : ¬ kI .f32 < mg .f32 X → ¬ kI .f32 < mg .f32 Y → fconvI .f64 .f32 (fpickI true (fconvI .f32 .f64 Y) (fconvI .f32 .f64 X)) = fconvI .f64 .f32 (fpickI true (fconvI .f32 .f64 X) (fconvI .f32 .f64 Y)) := fun a b => by
    rw [pick32 true hY hX (by omega) (by omega), pick32 true hX hY (by omega) (by omega), if_pos rfl, if_pos rfl]
    have kinj : kz .f32 X = kz .f32 Y → X = Y := fun hh => by
      have zx : kz .f32 X = if kM .f32 ≤ X then kM .f32 - X - 1 else X := rfl
      have zy : kz .f32 Y = if kM .f32 ≤ Y then kM .f32 - Y - 1 else Y := rfl
      rw [kM32] at zx zy
      by_cases sx : 2147483648 ≤ X <;> by_cases sy : 2147483648 ≤ Y <;> simp only [sx, sy, if_true, if_false] at zx zy <;> omega
    by_cases h1 : kz .f32 Y < kz .f32 X
    · rw [if_pos h1, if_neg (by omega)]
    · rw [if_neg h1]
      by_cases h2 : kz .f32 X < kz .f32 Y
      · rw [if_pos h2]
      · rw [if_neg h2]; exact kinj (by omega)
  have fpos : fconvI .f32 .f64 X = -1 ∨ ¬ fconvI .f32 .f64 X = -1 := by omega
  by_cases hn : kI .f32 < mg .f32 X
  · have n2 : ¬ mg .f32 X < kI .f32 := by omega
    by_cases hm : kI .f32 < mg .f32 Y
    · simp [hn, hm, n1 hn, n2, oX, oY, sX, xx, cc, b2i]
    · simp [hn, hm, n1 hn, n2, oX, oY, sX, xx, cc, b2i]
  · by_cases hm : kI .f32 < mg .f32 Y
    · by_cases n2 : mg .f32 X < kI .f32
      · simp [hn, hm, n2, oX, oY, sX, xx, cc, b2i]
      · simp [hn, hm, n2, oX, oY, sX, xx, cc, b2i]
    · by_cases n2 : mg .f32 X < kI .f32
      · simp [hn, hm, n2, pc hn hm, oX, oY, sX, xx, cc, b2i]
      · simp [hn, hm, n2, pc hn hm, oX, oY, sX, xx, cc, b2i]
end Go.Proofs.Ytnodelimomljbaa.PlainF32Rules
