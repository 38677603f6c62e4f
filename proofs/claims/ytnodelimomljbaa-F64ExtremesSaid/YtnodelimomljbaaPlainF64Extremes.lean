/- The law F64Extremes in numbers alone. No condition. -/
import Derived.Test.YtnodelimomljbaaRunF64Extremes
import Derived.Test.YtnodelimomljbaaPlFltH
import Derived.Test.YtnodelimomljbaaOp64
namespace Go.Proofs.Ytnodelimomljbaa.PlainF64Extremes
open Go Go.Sx Go.Sx.Flt Go.Proofs.Ytnodelimomljbaa.RunF64Extremes Go.Proofs.Ytnodelimomljbaa.Op64
set_option linter.unusedSimpArgs false
set_option linter.unusedVariables false
theorem plain (u : Nat → Int) (h : KindOk u 0 [some .i64, some .i64]) : Law ⟨u, fnF⟩ lawR := by
  have hu : -9223372036854775808 ≤ u 0 ∧ u 0 ≤ 9223372036854775807 := of_kind h.1
  have hv : -9223372036854775808 ≤ u 1 ∧ u 1 ≤ 9223372036854775807 := of_kind h.2.1
  have bu := i64_back hu
  have bv := i64_back hv
  simp only [lawR, Law, chain, E.prop, E.den, Bi.den, Un.den, and_true, w64_eq, ford64 hu hu, ford64 hv hv, b2i_ne, beq_iff_eq, decide_eq_true_eq]
  by_cases hn : 9218868437227405312 < u 0 % 9223372036854775808
  · by_cases hm : 9218868437227405312 < u 1 % 9223372036854775808
    · simp [hn, hm, b2i]
    · simp [hn, hm, b2i]
  · by_cases hm : 9218868437227405312 < u 1 % 9223372036854775808
    · simp [hn, hm, b2i]
    · have a' : mg .f64 (W64 (u 0)) ≤ kI .f64 := by rw [mg64, kI64]; omega
      have b' : mg .f64 (W64 (u 1)) ≤ kI .f64 := by rw [mg64, kI64]; omega
      have kinj : ∀ x y : Int, 0 ≤ x → 0 ≤ y → kz .f64 x = kz .f64 y → x = y := fun x y hx hy hh => by
        unfold kz at hh; rw [kM64] at hh; split at hh <;> split at hh <;> omega
      have kle : ∀ x y : Int, 0 ≤ x → 0 ≤ y → kz .f64 x ≤ kz .f64 y → ky .f64 x ≤ ky .f64 y := fun x y px py hh => by
        have zx : kz .f64 x = if kM .f64 ≤ x then kM .f64 - x - 1 else x := rfl
        have zy : kz .f64 y = if kM .f64 ≤ y then kM .f64 - y - 1 else y := rfl
        have lx : ky .f64 x = if kM .f64 ≤ x then kM .f64 - x else x := rfl
        have ly : ky .f64 y = if kM .f64 ≤ y then kM .f64 - y else y := rfl
        rw [kM64] at zx zy lx ly
        by_cases sx : 9223372036854775808 ≤ x <;> by_cases sy : 9223372036854775808 ≤ y <;> simp only [sx, sy, if_true, if_false] at zx zy lx ly <;> omega
      have e1 := fpick_min (w64_in (u 0)) (w64_in (u 1)) a' b'
      have e2 := fpick_max (w64_in (u 0)) (w64_in (u 1)) a' b'
      have e3 := fpick_max (w64_in (u 1)) (w64_in (u 0)) b' a'
      have fle : ∀ x y : Int, -9223372036854775808 ≤ x ∧ x ≤ 9223372036854775807 → -9223372036854775808 ≤ y ∧ y ≤ 9223372036854775807 → ¬ 9218868437227405312 < x % 9223372036854775808 → ¬ 9218868437227405312 < y % 9223372036854775808 → kz .f64 (W64 x) ≤ kz .f64 (W64 y) → fordI .f64 (W64 x) (W64 y) ≤ 1 := fun x y hx hy nx ny hh => by
        have := kle _ _ (w64_in _).1 (w64_in _).1 hh
        rw [ky64 hx, ky64 hy] at this
        rw [ford64 hx hy, if_neg (by omega)]
        by_cases h1 : (if x < 0 then -9223372036854775808 - x else x) = (if y < 0 then -9223372036854775808 - y else y)
        · rw [if_pos h1]; omega
        · rw [if_neg h1, if_pos (by omega)]; omega
      rcases Int.lt_trichotomy (kz .f64 (W64 (u 0))) (kz .f64 (W64 (u 1))) with hc | hc | hc
      · rw [if_pos hc] at e1
        rw [if_neg (by omega)] at e2
        rw [if_pos hc] at e3
        have := fle _ _ hu hv hn hm (by omega)
        simp [hn, hm, e1, e2, e3, bu, bv, b2i, this]
      · have hxy := kinj _ _ (w64_in _).1 (w64_in _).1 hc
        rw [if_neg (by omega)] at e1
        rw [if_neg (by omega)] at e2
        rw [if_neg (by omega)] at e3
        have h01 : u 0 = u 1 := by rw [← bu, ← bv, hxy]
        have := fle _ _ hv hv hm hm (by omega)
        rw [h01] at e1 e2 e3
        simp [hn, hm, e1, e2, e3, bu, bv, b2i, this, h01]
      · rw [if_neg (by omega)] at e1
        rw [if_pos hc] at e2
        rw [if_neg (by omega)] at e3
        have := fle _ _ hv hu hm hn (by omega)
        simp [hn, hm, e1, e2, e3, bu, bv, b2i, this]
end Go.Proofs.Ytnodelimomljbaa.PlainF64Extremes
