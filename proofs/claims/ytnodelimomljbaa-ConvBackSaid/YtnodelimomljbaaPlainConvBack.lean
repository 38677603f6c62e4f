/- The law ConvBack in numbers alone. No condition. -/
import Derived.Test.YtnodelimomljbaaRunConvBack
import Derived.Test.YtnodelimomljbaaOpC
import Derived.Test.YtnodelimomljbaaPlFltQ
import Derived.Test.YtnodelimomljbaaPlFltL
namespace Go.Proofs.Ytnodelimomljbaa.PlainConvBack
open Go Go.Sx Go.Sx.Flt Go.Proofs.Ytnodelimomljbaa.RunConvBack Go.Proofs.Ytnodelimomljbaa.OpC Go.Proofs.Ytnodelimomljbaa.PlainOpC
set_option linter.unusedSimpArgs false
set_option linter.unusedVariables false
set_option maxRecDepth 100000
theorem w64_of {n : Int} (h : 0 ≤ n ∧ n ≤ topF .f64) : W64 n = n := by have := h.2; simp only [topF] at this; unfold W64; omega
theorem w32_of {n : Int} (h : 0 ≤ n ∧ n ≤ topF .f32) : W32 n = n := by have := h.2; simp only [topF] at this; unfold W32; omega
theorem w64_i64 (n : Int) : W64 (IntKind.i64.wrap n) = W64 n := by
  simp only [W64, IntKind.wrap, IntKind.bits, IntKind.signed]; omega
theorem nat_exp (a : Nat) : a &&& 2139095040 = a / 8388608 % 256 * 8388608 := by
  have e : a &&& 2139095040 = ((a >>> 23) &&& (2 ^ 8 - 1)) <<< 23 := by
    apply Nat.eq_of_testBit_eq
    intro j
    have h : (2139095040 : Nat) = (2 ^ 8 - 1) <<< 23 := by decide
    rw [h, Nat.testBit_and, Nat.testBit_shiftLeft, Nat.testBit_shiftLeft, Nat.testBit_and, Nat.testBit_shiftRight]
    by_cases hj : 23 ≤ j
    · rw [show 23 + (j - 23) = j by omega]; cases a.testBit j <;> simp [hj]
    · simp [hj]
  rw [e, Nat.and_two_pow_sub_one_eq_mod, Nat.shiftRight_eq_div_pow, Nat.shiftLeft_eq]
theorem and_exp {x : Int} (h : 0 ≤ x ∧ x ≤ topF .f32) : bitI .and .i64 x 2139095040 = x % 2147483648 / 8388608 * 8388608 := by
  have h2 := h.2
  simp only [topF] at h2
  unfold bitI
  have e : (BitVec.ofInt IntKind.i64.bits x &&& BitVec.ofInt IntKind.i64.bits 2139095040).toNat = x.toNat / 8388608 % 256 * 8388608 := by
    show (BitVec.ofInt 64 x &&& BitVec.ofInt 64 2139095040).toNat = _
    rw [BitVec.toNat_and, ofInt_nat, ofInt_nat, show ((2139095040 : Int) % 18446744073709551616).toNat = 2139095040 by decide, nat_exp]
    omega
  simp only [e]
  rw [i64_low (by omega)]
  omega
theorem plain (u : Nat → Int) (h : KindOk u 0 [some .i64, some .i64]) : Law ⟨u, fnF⟩ lawR := by
  obtain ⟨k, hk⟩ : ∃ k, u 0 % 16777216 = k := ⟨_, rfl⟩
  obtain ⟨m, hm⟩ : ∃ m, u 0 / 2048 = m := ⟨_, rfl⟩
  have hu0 : -9223372036854775808 ≤ u 0 ∧ u 0 < 9223372036854775808 := by
    have := of_kind h.1; omega
  have hk2 : 0 ≤ k ∧ k < 16777216 := by omega
  have hm2 : -4503599627370496 ≤ m ∧ m ≤ 4503599627370496 := by omega
  obtain ⟨⟨a1, a2⟩, a3⟩ := back32 hk2
  obtain ⟨a, ha⟩ : ∃ a, ((FloatKind.f32.nearest k : Nat) : Int) = a := ⟨_, rfl⟩
  rw [ha] at a1 a2 a3
  rw [kI32] at a2
  have ax : 0 ≤ a ∧ a ≤ topF .f32 := ⟨a1, by simp only [topF]; omega⟩
  have am : mg .f32 a ≤ kI .f32 := by unfold mg; rw [kM32, if_neg (by omega), kI32]; omega
  have au := conv_up ax am
  have ad := conv_down ax am
  obtain ⟨au1, _⟩ := upW_facts ax am
  rw [← au] at ad au1
  obtain ⟨b1, b2, b3⟩ := back64 hm2
  obtain ⟨b, hb⟩ : ∃ b, ((FloatKind.f64.nearest m : Nat) : Int) = b := ⟨_, rfl⟩
  rw [hb] at b1 b2 b3
  have bf : fordI .f64 b b = 0 := by rw [ford_eq b1 b1, if_neg (by omega), if_pos rfl]
  obtain ⟨x, hx⟩ : ∃ x, W32 (u 1) = x := ⟨_, rfl⟩
  have xx := w32_in (u 1)
  rw [hx] at xx
  have f12 : ¬ q12.prop ⟨u, fnF⟩ := by
    simp only [q12, E.prop, E.den, Bi.den, Un.den, w64_eq, w32_eq, hk, ha, w64_of au1, ad]; omega
  have f11 : ¬ q11.prop ⟨u, fnF⟩ := by
    simp only [q11, E.prop, E.den, Bi.den, Un.den, w64_eq, w32_eq, hk, ha, w64_of au1, ad]; omega
  have f4 : q4.prop ⟨u, fnF⟩ := by
    simp only [q4, E.prop, E.den, Bi.den, Un.den, w64_eq, w32_eq, hk, ha, w64_of au1, ad]
  have an : ¬ fconvI .f32 .f64 a = -1 := conv_num ax am
  have f5 : q5.prop ⟨u, fnF⟩ := by
    simp only [q5, E.prop, E.den, Bi.den, Un.den, w64_eq, w32_eq, hk, ha, w32_of ax, a3, b2i_ne, beq_iff_eq, an, decide_eq_true_eq, if_false]
    rw [if_neg (by omega), if_pos (by omega)]
  have f6 : q6.prop ⟨u, fnF⟩ := by
    simp only [q6, E.prop, E.den, Bi.den, Un.den, w64_eq, w32_eq, hk, ha, w32_of ax, a3, b2i_ne, beq_iff_eq, an, decide_eq_true_eq, if_false]
    rw [if_neg (by omega), if_pos (by omega)]; unfold W32; omega
  have f2 : q2.prop ⟨u, fnF⟩ := by
    simp only [q2, E.prop, E.den, Bi.den, Un.den, w64_eq, w32_eq, hm, hb, w64_i64, w64_of b1, b3, bf, b2i_ne, beq_iff_eq, decide_eq_true_eq, if_false]
    rw [if_neg (by decide), if_neg (by omega), if_pos (by omega)]
  have f3 : q3.prop ⟨u, fnF⟩ := by
    simp only [q3, E.prop, E.den, Bi.den, Un.den, w64_eq, w32_eq, hm, hb, w64_i64, w64_of b1, b3, bf, b2i_ne, beq_iff_eq, decide_eq_true_eq, if_false]
    rw [if_neg (by decide), if_neg (by omega), if_pos (by omega)]; exact i64_id (by omega)
  have hand : bitI .and .i64 x 2139095040 = x % 2147483648 / 8388608 * 8388608 := and_exp xx
  by_cases hn : mg .f32 x ≤ kI .f32
  · have xu := conv_up xx hn
    have xd := conv_down xx hn
    obtain ⟨xu1, _⟩ := upW_facts xx hn
    rw [← xu] at xd xu1
    have xn : ¬ fconvI .f32 .f64 x = -1 := conv_num xx hn
    have f10 : ¬ q10.prop ⟨u, fnF⟩ := by
      simp only [q10, E.prop, E.den, Bi.den, Un.den, w64_eq, w32_eq, hx]; exact xn
    have f9 : ¬ q9.prop ⟨u, fnF⟩ := by
      simp only [q9, E.prop, E.den, Bi.den, Un.den, w64_eq, w32_eq, hx, w64_of xu1, xd]; omega
    have f8 : ¬ q8.prop ⟨u, fnF⟩ := by
      simp only [q8, E.prop, E.den, Bi.den, Un.den, w64_eq, w32_eq, hx, w64_of xu1, xd]; omega
    have f13 : q13.prop ⟨u, fnF⟩ := by
      simp only [q13, E.prop, E.den, Bi.den, Un.den, w64_eq, w32_eq, hx, w64_of xu1, xd]
    by_cases h7 : x % 2147483648 / 8388608 * 8388608 = 2139095040
    · have f7 : q7.prop ⟨u, fnF⟩ := by
        simp only [q7, E.prop, E.den, Bi.den, Un.den, w64_eq, w32_eq, hx, hand]; exact h7
      have f1 : q1.prop ⟨u, fnF⟩ := by
        simp only [q1, E.prop, E.den, Bi.den, Un.den, w64_eq, w32_eq, hx]
        rw [kI32] at hn; unfold mg at hn; rw [kM32] at hn; split at hn <;> omega
      exact law_of_facts (fs := [(q12, false), (q11, false), (q4, true), (q5, true), (q6, true), (q2, true), (q3, true), (q10, false), (q9, false), (q8, false), (q13, true), (q7, true), (q1, true)]) ⟨f12, f11, f4, f5, f6, f2, f3, f10, f9, f8, f13, f7, f1, trivial⟩ (by decide)
    · have f7 : ¬ q7.prop ⟨u, fnF⟩ := by
        simp only [q7, E.prop, E.den, Bi.den, Un.den, w64_eq, w32_eq, hx, hand]; exact h7
      exact law_of_facts (fs := [(q12, false), (q11, false), (q4, true), (q5, true), (q6, true), (q2, true), (q3, true), (q10, false), (q9, false), (q8, false), (q13, true), (q7, false)]) ⟨f12, f11, f4, f5, f6, f2, f3, f10, f9, f8, f13, f7, trivial⟩ (by decide)
  · have f10 : q10.prop ⟨u, fnF⟩ := by
      simp only [q10, E.prop, E.den, Bi.den, Un.den, w64_eq, w32_eq, hx]; exact conv_bad xx (by omega)
    rw [kI32] at hn; unfold mg at hn; rw [kM32] at hn
    have xt := xx.2
    simp only [topF] at xt
    have h7 : x % 2147483648 / 8388608 * 8388608 = 2139095040 ∧ ¬ x % 8388608 = 0 := by split at hn <;> omega
    have f7 : q7.prop ⟨u, fnF⟩ := by
      simp only [q7, E.prop, E.den, Bi.den, Un.den, w64_eq, w32_eq, hx, hand]; exact h7.1
    have f1 : ¬ q1.prop ⟨u, fnF⟩ := by
      simp only [q1, E.prop, E.den, Bi.den, Un.den, w64_eq, w32_eq, hx]; exact h7.2
    exact law_of_facts (fs := [(q12, false), (q11, false), (q4, true), (q5, true), (q6, true), (q2, true), (q3, true), (q10, true), (q7, true), (q1, false)]) ⟨f12, f11, f4, f5, f6, f2, f3, f10, f7, f1, trivial⟩ (by decide)
end Go.Proofs.Ytnodelimomljbaa.PlainConvBack
