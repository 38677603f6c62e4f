/- The law F64Rules in numbers alone. No condition. -/
import Derived.Test.YtnodelimomljbaaRunF64Rules
import Derived.Test.YtnodelimomljbaaPlFltH
import Derived.Test.YtnodelimomljbaaOp64
namespace Go.Proofs.Ytnodelimomljbaa.PlainF64Rules
open Go Go.Sx Go.Sx.Flt Go.Proofs.Ytnodelimomljbaa.RunF64Rules Go.Proofs.Ytnodelimomljbaa.Op64
set_option linter.unusedSimpArgs false
set_option linter.unusedVariables false
theorem plain (u : Nat → Int) (h : KindOk u 0 [some .i64, some .i64]) : Law ⟨u, fnF⟩ lawR := by
  have hu : -9223372036854775808 ≤ u 0 ∧ u 0 ≤ 9223372036854775807 := of_kind h.1
  have hv : -9223372036854775808 ≤ u 1 ∧ u 1 ≤ 9223372036854775807 := of_kind h.2.1
  have hac := far_add_comm .f64 (W64 (u 1)) (W64 (u 0))
  have hmc := far_mul_comm .f64 (W64 (u 1)) (W64 (u 0))
  have h0 : IntKind.i64.wrap 0 = 0 := by decide
  have xx : bitI .xor .i64 (bitI .xor .i64 (u 0) (-9223372036854775808)) (-9223372036854775808) = u 0 := by rw [xor_sign', xor_sign']; omega
  have cc : bitI .or .i64 (bitI .andNot .i64 (u 0) (-9223372036854775808)) (bitI .and .i64 (bitI .xor .i64 (u 0) (-9223372036854775808)) (-9223372036854775808)) = bitI .xor .i64 (u 0) (-9223372036854775808) := by
    rw [xor_sign', andNot_sign, and_sign, or_sign (by omega) (by split <;> simp)]
    split <;> omega
  have n1 : 9218868437227405312 < u 0 % 9223372036854775808 → ∀ op, farI op .f64 (W64 (u 0)) (W64 (u 1)) = -1 := fun hh op => far_nan (w64_in _) (w64_in _) (.inl (by rw [mg64]; exact hh))
  have pc : ¬ 9218868437227405312 < u 0 % 9223372036854775808 → ¬ 9218868437227405312 < u 1 % 9223372036854775808 → fpickI true (W64 (u 1)) (W64 (u 0)) = fpickI true (W64 (u 0)) (W64 (u 1)) := fun a b => by
    have a' : mg .f64 (W64 (u 0)) ≤ kI .f64 := by rw [mg64, kI64]; omega
    have b' : mg .f64 (W64 (u 1)) ≤ kI .f64 := by rw [mg64, kI64]; omega
    rw [fpick_min (w64_in _) (w64_in _) b' a', fpick_min (w64_in _) (w64_in _) a' b']
    have kinj : ∀ x y : Int, 0 ≤ x → 0 ≤ y → kz .f64 x = kz .f64 y → x = y := fun x y hx hy hh => by
      unfold kz at hh; rw [kM64] at hh; split at hh <;> split at hh <;> omega
    by_cases h1 : kz .f64 (W64 (u 1)) < kz .f64 (W64 (u 0))
    · rw [if_pos h1, if_neg (by omega)]
    · rw [if_neg h1]
      by_cases h2 : kz .f64 (W64 (u 0)) < kz .f64 (W64 (u 1))
      · rw [if_pos h2]
      · rw [if_neg h2]; exact kinj _ _ (w64_in _).1 (w64_in _).1 (by omega)
  have kk : (if u 1 < 0 then -9223372036854775808 - u 1 else u 1) = (if u 1 < 0 then -9223372036854775808 - u 1 else u 1) := rfl
  simp only [lawR, Law, chain, E.prop, E.den, Bi.den, Un.den, and_true, w64_eq, hac, hmc, xx, cc, ford64 hu hu, ford64 hv hv, subs_64, b2i_ne, beq_iff_eq, decide_eq_true_eq]
  by_cases hn : 9218868437227405312 < u 0 % 9223372036854775808
  · have n2 : ¬ u 0 % 9223372036854775808 < 9218868437227405312 := by omega
    by_cases hm : 9218868437227405312 < u 1 % 9223372036854775808
    · simp [hn, hm, n1 hn, n2, b2i]
    · simp [hn, hm, n1 hn, n2, b2i]
  · by_cases hm : 9218868437227405312 < u 1 % 9223372036854775808
    · by_cases n2 : u 0 % 9223372036854775808 < 9218868437227405312
      · simp [hn, hm, n2, h0, b2i]
      · simp [hn, hm, n2, h0, b2i]
    · by_cases n2 : u 0 % 9223372036854775808 < 9218868437227405312
      · simp [hn, hm, n2, pc hn hm, h0, b2i]
      · simp [hn, hm, n2, pc hn hm, h0, b2i]
end Go.Proofs.Ytnodelimomljbaa.PlainF64Rules
