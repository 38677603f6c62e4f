/- Words of 32 bits as whole numbers of Go's int: what the laws of floats ask. No condition. -/
import Derived.Test.YtnodelimomljbaaPlFltH
namespace Go.Sx
open Go

def W32 (n : Int) : Int := n % 4294967296
theorem w32_eq (n : Int) : IntKind.u32.wrap n = W32 n := by simp [W32, IntKind.wrap, IntKind.bits, IntKind.signed]
theorem w32_in (n : Int) : 0 ≤ W32 n ∧ W32 n ≤ topF .f32 := by unfold W32; simp only [topF]; omega
theorem w32_w (n : Int) : W32 (W32 n) = W32 n := by unfold W32; omega
theorem kM32 : kM .f32 = 2147483648 := rfl
theorem kI32 : kI .f32 = 2139095040 := rfl
theorem mg32 (n : Int) : mg .f32 (W32 n) = n % 2147483648 := by
  have e : W32 n = n % 4294967296 := rfl
  unfold mg
  by_cases h : kM .f32 ≤ W32 n
  · rw [if_pos h]; rw [kM32] at h ⊢; omega
  · rw [if_neg h]; rw [kM32] at h; omega
theorem ky32 (n : Int) : ky .f32 (W32 n) = if 2147483648 ≤ W32 n then 2147483648 - W32 n else W32 n := by
  unfold ky; rw [kM32]
theorem ford32 (x y : Int) : fordI .f32 (W32 x) (W32 y) = if 2139095040 < x % 2147483648 ∨ 2139095040 < y % 2147483648 then 3 else
      if (if 2147483648 ≤ W32 x then 2147483648 - W32 x else W32 x) = (if 2147483648 ≤ W32 y then 2147483648 - W32 y else W32 y) then 0 else if (if 2147483648 ≤ W32 x then 2147483648 - W32 x else W32 x) < (if 2147483648 ≤ W32 y then 2147483648 - W32 y else W32 y) then 1 else 2 := by
  rw [ford_eq (w32_in x) (w32_in y), mg32, mg32, ky32, ky32]; rfl
theorem mul1_32 (n : Int) : farI .mul .f32 (W32 n) 1065353216 = if 2139095040 < n % 2147483648 then -1 else W32 n := by
  have := far_mul_one (w32_in n); rw [mg32] at this; exact this
theorem div1_32 (n : Int) : farI .quo .f32 (W32 n) 1065353216 = if 2139095040 < n % 2147483648 then -1 else W32 n := by
  have := far_div_one (w32_in n); rw [mg32] at this; exact this
theorem sub0_32 (n : Int) : farI .sub .f32 (W32 n) 0 = if 2139095040 < n % 2147483648 then -1 else W32 n := by
  have := far_sub_zero (w32_in n); rw [mg32] at this; exact this
theorem subs_32 (n : Int) : farI .sub .f32 (W32 n) (W32 n) = if n % 2147483648 < 2139095040 then 0 else -1 := by
  have := far_sub_self (w32_in n); rw [mg32] at this; exact this
theorem divs_32 (n : Int) : farI .quo .f32 (W32 n) (W32 n) = if n % 2147483648 < 2139095040 ∧ n % 2147483648 ≠ 0 then 1065353216 else -1 := by
  have := far_div_self (w32_in n); rw [mg32] at this; exact this
theorem add0_32 (n : Int) : farI .add .f32 (W32 n) 0 = if 2139095040 < n % 2147483648 then -1 else if n % 2147483648 = 0 then 0 else W32 n := by
  have := far_add_zero (w32_in n) false; rw [mg32, kI32] at this
  simpa using this
theorem addm_32 (n : Int) : farI .add .f32 (W32 n) 2147483648 = if 2139095040 < n % 2147483648 then -1 else if n % 2147483648 = 0 then (if 2147483648 ≤ W32 n then 2147483648 else 0) else W32 n := by
  have := far_add_zero (w32_in n) true; rw [mg32] at this
  simp only [and_true, if_true] at this
  exact this

/-! ### the sign's bit -/
theorem i64_low {n : Nat} (h : n < 4294967296) : IntKind.i64.wrap (n : Int) = n := by rw [i64_nat (by omega), if_pos (by omega)]
theorem s32 : (BitVec.ofInt 64 2147483648).toNat = 2 ^ 31 := by decide
section
variable {x : Int} (h : 0 ≤ x ∧ x < 4294967296)
include h
theorem split32 : (x < 2147483648 ∧ (x % 18446744073709551616).toNat = x.toNat ∧ x.toNat < 2 ^ 31) ∨ (2147483648 ≤ x ∧ ∃ a : Nat, (x % 18446744073709551616).toNat = 2 ^ 31 + a ∧ a < 2 ^ 31 ∧ x = 2147483648 + (a : Int)) := by
  by_cases hs : x < 2147483648
  · exact .inl ⟨hs, by omega, by omega⟩
  · exact .inr ⟨by omega, (x - 2147483648).toNat, by omega, by omega, by omega⟩
theorem andNot32 : bitI .andNot .i64 x 2147483648 = x % 2147483648 := by
  unfold bitI
  have e : (BitVec.ofInt IntKind.i64.bits x &&& ~~~BitVec.ofInt IntKind.i64.bits 2147483648).toNat = (x % 2147483648).toNat := by
    show (BitVec.ofInt 64 x &&& ~~~BitVec.ofInt 64 2147483648).toNat = _
    have e1 : (~~~BitVec.ofInt 64 2147483648).toNat = 2 ^ 64 - 1 - 2 ^ 31 := by decide
    rw [BitVec.toNat_and, ofInt_nat, e1]
    have key : ∀ a : Nat, a < 2 ^ 31 → a &&& (2 ^ 64 - 1 - 2 ^ 31) = a ∧ (2 ^ 31 + a) &&& (2 ^ 64 - 1 - 2 ^ 31) = a := fun a ha => by
      have e2 : 2 ^ 64 - 1 - 2 ^ 31 = (2 ^ 64 - 1) ^^^ 2 ^ 31 := by decide
      have t : ∀ j, ((2 ^ 64 - 1) ^^^ 2 ^ 31).testBit j = ((decide (j < 64)) ^^ decide (31 = j)) := fun j => by
        rw [Nat.testBit_xor, Nat.testBit_two_pow_sub_one, Nat.testBit_two_pow]
      constructor
      · apply Nat.eq_of_testBit_eq
        intro j
        rw [e2, Nat.testBit_and, t]
        by_cases hj : j < 31
        · have h1 : j < 64 := by omega
          have h2 : ¬ 31 = j := by omega
          simp [h1, h2]
        · rw [Nat.testBit_lt_two_pow (Nat.lt_of_lt_of_le ha (Nat.pow_le_pow_right (by decide) (by omega)))]; rfl
      · apply Nat.eq_of_testBit_eq
        intro j
        rw [e2, Nat.testBit_and, t]
        rcases Nat.lt_trichotomy j 31 with hj | hj | hj
        · rw [Nat.testBit_two_pow_add_gt hj]
          have h1 : j < 64 := by omega
          have h2 : ¬ 31 = j := by omega
          simp [h1, h2]
        · subst hj; rw [Nat.testBit_lt_two_pow ha]; simp
        · have hl : 2 ^ 32 ≤ 2 ^ j := Nat.pow_le_pow_right (by decide) hj
          rw [Nat.testBit_lt_two_pow (show 2 ^ 31 + a < 2 ^ j by omega), Nat.testBit_lt_two_pow (show a < 2 ^ j by omega)]; rfl
    rcases split32 h with ⟨_, h2, h3⟩ | ⟨_, a, h2, h3, h4⟩
    · rw [h2, (key _ h3).1]; omega
    · rw [h2, (key _ h3).2]; omega
  simp only [e]
  rw [i64_low (by omega)]; omega
theorem and32 : bitI .and .i64 x 2147483648 = if x < 2147483648 then 0 else 2147483648 := by
  unfold bitI
  have e : (BitVec.ofInt IntKind.i64.bits x &&& BitVec.ofInt IntKind.i64.bits 2147483648).toNat = if x < 2147483648 then 0 else 2147483648 := by
    show (BitVec.ofInt 64 x &&& BitVec.ofInt 64 2147483648).toNat = _
    rw [BitVec.toNat_and, ofInt_nat, s32]
    rcases split32 h with ⟨h1, h2, h3⟩ | ⟨h1, a, h2, h3, h4⟩
    · rw [h2, and_top h3, if_pos h1]
    · rw [h2, and_top' h3, if_neg (by omega)]
  simp only [e]
  split <;> rfl
theorem xor32 : bitI .xor .i64 x 2147483648 = if x < 2147483648 then x + 2147483648 else x - 2147483648 := by
  unfold bitI
  have e : (BitVec.ofInt IntKind.i64.bits x ^^^ BitVec.ofInt IntKind.i64.bits 2147483648).toNat = (if x < 2147483648 then x + 2147483648 else x - 2147483648 : Int).toNat := by
    show (BitVec.ofInt 64 x ^^^ BitVec.ofInt 64 2147483648).toNat = _
    rw [BitVec.toNat_xor, ofInt_nat, s32]
    rcases split32 h with ⟨h1, h2, h3⟩ | ⟨h1, a, h2, h3, h4⟩
    · rw [h2, xor_top h3, if_pos h1]; omega
    · rw [h2, xor_top' h3, if_neg (by omega)]; omega
  simp only [e]
  by_cases hs : x < 2147483648
  · rw [if_pos hs, i64_low (by omega)]; omega
  · rw [if_neg hs, i64_low (by omega)]; omega
end
theorem or32 {x s : Int} (h : 0 ≤ x ∧ x < 2147483648) (hs : s = 0 ∨ s = 2147483648) : bitI .or .i64 x s = x + s := by
  unfold bitI
  have e : (BitVec.ofInt IntKind.i64.bits x ||| BitVec.ofInt IntKind.i64.bits s).toNat = (x + s).toNat := by
    show (BitVec.ofInt 64 x ||| BitVec.ofInt 64 s).toNat = _
    rw [BitVec.toNat_or, ofInt_nat]
    rcases hs with rfl | rfl
    · rw [show (BitVec.ofInt 64 0).toNat = 0 by decide, Nat.or_zero]; omega
    · rw [show (BitVec.ofInt 64 2147483648).toNat = 2 ^ 31 * 1 by decide, Nat.or_comm, ← Nat.two_pow_add_eq_or_of_lt (by omega)]; omega
  simp only [e]
  rcases hs with rfl | rfl
  · rw [i64_low (by omega)]; omega
  · rw [i64_low (by omega)]; omega
end Go.Sx
