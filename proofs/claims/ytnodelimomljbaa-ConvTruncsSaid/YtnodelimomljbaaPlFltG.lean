/- Words of 64 bits as whole numbers of Go's int: what the laws of floats ask. No condition. -/
import Derived.Test.YtnodelimomljbaaPlFltC
import Derived.Test.YtnodelimomljbaaPlFltF
namespace Go.Sx
open Go

def W64 (n : Int) : Int := n % 18446744073709551616
theorem w64_eq (n : Int) : IntKind.u64.wrap n = W64 n := by simp [W64, IntKind.wrap, IntKind.bits, IntKind.signed]
theorem w64_in (n : Int) : 0 ≤ W64 n ∧ W64 n ≤ topF .f64 := by unfold W64; simp only [topF]; omega
theorem i64_back {n : Int} (h : -9223372036854775808 ≤ n ∧ n ≤ 9223372036854775807) : IntKind.i64.wrap (W64 n) = n := by
  unfold W64; simp only [IntKind.wrap, IntKind.bits, IntKind.signed]; simp; split <;> omega
theorem kM64 : kM .f64 = 9223372036854775808 := rfl
theorem kI64 : kI .f64 = 9218868437227405312 := rfl
theorem mg64 (n : Int) : mg .f64 (W64 n) = n % 9223372036854775808 := by
  have e : W64 n = n % 18446744073709551616 := rfl
  unfold mg
  by_cases h : kM .f64 ≤ W64 n
  · rw [if_pos h]; rw [kM64] at h ⊢; omega
  · rw [if_neg h]; rw [kM64] at h; omega
theorem ky64 {n : Int} (h : -9223372036854775808 ≤ n ∧ n ≤ 9223372036854775807) : ky .f64 (W64 n) = if n < 0 then -9223372036854775808 - n else n := by
  have e : W64 n = n % 18446744073709551616 := rfl
  unfold ky
  by_cases hh : kM .f64 ≤ W64 n
  · rw [if_pos hh]; rw [kM64] at hh ⊢; rw [if_pos (by omega)]; omega
  · rw [if_neg hh]; rw [kM64] at hh; rw [if_neg (by omega)]; omega
theorem big64 {n : Int} (h : -9223372036854775808 ≤ n ∧ n ≤ 9223372036854775807) : kM .f64 ≤ W64 n ↔ n < 0 := by
  unfold W64; simp only [kM]; omega
/-- a word's back in Go's int, of what came out -/
theorem i64_of {m : Int} (h : 0 ≤ m ∧ m ≤ topF .f64) : IntKind.i64.wrap m = if m < 9223372036854775808 then m else m - 18446744073709551616 := by
  simp only [topF] at h
  simp only [IntKind.wrap, IntKind.bits, IntKind.signed]; simp; split <;> split <;> omega
theorem ford64 {x y : Int} (hx : -9223372036854775808 ≤ x ∧ x ≤ 9223372036854775807) (hy : -9223372036854775808 ≤ y ∧ y ≤ 9223372036854775807) :
    fordI .f64 (W64 x) (W64 y) = if 9218868437227405312 < x % 9223372036854775808 ∨ 9218868437227405312 < y % 9223372036854775808 then 3 else
      if (if x < 0 then -9223372036854775808 - x else x) = (if y < 0 then -9223372036854775808 - y else y) then 0 else if (if x < 0 then -9223372036854775808 - x else x) < (if y < 0 then -9223372036854775808 - y else y) then 1 else 2 := by
  rw [ford_eq (w64_in x) (w64_in y), mg64, mg64, ky64 hx, ky64 hy]; rfl
theorem mul1_64 (n : Int) : farI .mul .f64 (W64 n) 4607182418800017408 = if 9218868437227405312 < n % 9223372036854775808 then -1 else W64 n := by
  have := far_mul_one (w64_in n); rw [mg64] at this; exact this
theorem div1_64 (n : Int) : farI .quo .f64 (W64 n) 4607182418800017408 = if 9218868437227405312 < n % 9223372036854775808 then -1 else W64 n := by
  have := far_div_one (w64_in n); rw [mg64] at this; exact this
theorem sub0_64 (n : Int) : farI .sub .f64 (W64 n) 0 = if 9218868437227405312 < n % 9223372036854775808 then -1 else W64 n := by
  have := far_sub_zero (w64_in n); rw [mg64] at this; exact this
theorem subs_64 (n : Int) : farI .sub .f64 (W64 n) (W64 n) = if n % 9223372036854775808 < 9218868437227405312 then 0 else -1 := by
  have := far_sub_self (w64_in n); rw [mg64] at this; exact this
theorem divs_64 (n : Int) : farI .quo .f64 (W64 n) (W64 n) = if n % 9223372036854775808 < 9218868437227405312 ∧ n % 9223372036854775808 ≠ 0 then 4607182418800017408 else -1 := by
  have := far_div_self (w64_in n); rw [mg64] at this; exact this
theorem add0_64 {n : Int} : farI .add .f64 (W64 n) 0 = if 9218868437227405312 < n % 9223372036854775808 then -1 else if n % 9223372036854775808 = 0 then 0 else W64 n := by
  have := far_add_zero (w64_in n) false; rw [mg64, kI64] at this
  simpa using this
theorem addm_64 {n : Int} (h : -9223372036854775808 ≤ n ∧ n ≤ 9223372036854775807) : farI .add .f64 (W64 n) 9223372036854775808 = if 9218868437227405312 < n % 9223372036854775808 then -1 else if n % 9223372036854775808 = 0 then (if n < 0 then 9223372036854775808 else 0) else W64 n := by
  have := far_add_zero (w64_in n) true; rw [mg64] at this
  have e := big64 h
  simp only [e, and_true, if_true] at this
  exact this
end Go.Sx
