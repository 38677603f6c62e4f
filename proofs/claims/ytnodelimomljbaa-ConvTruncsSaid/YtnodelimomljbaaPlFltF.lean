/- The sign's bit of words of 64 and of 32 bits. No condition. -/
import Derived.Test.YtnodelimomljbaaSxB
namespace Go.Sx
open Go

theorem xor_top {n a : Nat} (h : a < 2 ^ n) : a ^^^ 2 ^ n = 2 ^ n + a := by
  apply Nat.eq_of_testBit_eq
  intro j
  rw [Nat.testBit_xor, Nat.testBit_two_pow]
  rcases Nat.lt_trichotomy j n with h1 | h1 | h1
  · rw [Nat.testBit_two_pow_add_gt h1]
    have : ¬ n = j := by omega
    simp [this]
  · subst h1
    rw [Nat.testBit_two_pow_add_eq, Nat.testBit_lt_two_pow h]; simp
  · have h2 : 2 ^ (n + 1) ≤ 2 ^ j := Nat.pow_le_pow_right (by decide) h1
    have h3 : 2 ^ (n + 1) = 2 * 2 ^ n := Nat.pow_succ'
    rw [Nat.testBit_lt_two_pow (show a < 2 ^ j by omega), Nat.testBit_lt_two_pow (show 2 ^ n + a < 2 ^ j by omega)]
    have : ¬ n = j := by omega
    simp [this]
theorem xor_top' {n a : Nat} (h : a < 2 ^ n) : (2 ^ n + a) ^^^ 2 ^ n = a := by
  rw [← xor_top h, Nat.xor_assoc, Nat.xor_self, Nat.xor_zero]
theorem and_top {n a : Nat} (h : a < 2 ^ n) : a &&& 2 ^ n = 0 := by
  apply Nat.eq_of_testBit_eq
  intro j
  rw [Nat.testBit_and, Nat.testBit_two_pow, Nat.zero_testBit]
  by_cases hj : n = j
  · subst hj; rw [Nat.testBit_lt_two_pow h]; rfl
  · simp [hj]
theorem and_top' {n a : Nat} (h : a < 2 ^ n) : (2 ^ n + a) &&& 2 ^ n = 2 ^ n := by
  apply Nat.eq_of_testBit_eq
  intro j
  rw [Nat.testBit_and, Nat.testBit_two_pow]
  by_cases hj : n = j
  · subst hj; rw [Nat.testBit_two_pow_add_eq, Nat.testBit_lt_two_pow h]; simp
  · simp [hj]
theorem ofInt_nat (x : Int) : (BitVec.ofInt 64 x).toNat = (x % 18446744073709551616).toNat := by
  rw [BitVec.toNat_ofInt]; rfl
theorem i64_nat {n : Nat} (h : n < 18446744073709551616) : IntKind.i64.wrap (n : Int) = if n < 9223372036854775808 then (n : Int) else (n : Int) - 18446744073709551616 := by
  simp only [IntKind.wrap, IntKind.bits, IntKind.signed]
  simp
  split <;> split <;> omega
/-- without the sign -/
theorem andNot_sign (x : Int) : bitI .andNot .i64 x (-9223372036854775808) = x % 9223372036854775808 := by
  unfold bitI
  have e : (BitVec.ofInt IntKind.i64.bits x &&& ~~~BitVec.ofInt IntKind.i64.bits (-9223372036854775808)).toNat = (x % 9223372036854775808).toNat := by
    show (BitVec.ofInt 64 x &&& ~~~BitVec.ofInt 64 (-9223372036854775808)).toNat = _
    rw [BitVec.toNat_and, ofInt_nat, show (~~~BitVec.ofInt 64 (-9223372036854775808)).toNat = 2 ^ 63 - 1 by decide, Nat.and_two_pow_sub_one_eq_mod]
    omega
  simp only [e]
  rw [i64_nat (by omega), if_pos (by omega)]
  omega
/-- the sign turned -/
theorem xor_sign (x : Int) : bitI .xor .i64 x (-9223372036854775808) = if x % 18446744073709551616 < 9223372036854775808 then x % 18446744073709551616 - 9223372036854775808 else x % 18446744073709551616 - 9223372036854775808 := by
  unfold bitI
  have hs : (BitVec.ofInt 64 (-9223372036854775808)).toNat = 2 ^ 63 := by decide
  have e : (BitVec.ofInt IntKind.i64.bits x ^^^ BitVec.ofInt IntKind.i64.bits (-9223372036854775808)).toNat = (if x % 18446744073709551616 < 9223372036854775808 then x % 18446744073709551616 + 9223372036854775808 else x % 18446744073709551616 - 9223372036854775808 : Int).toNat := by
    show (BitVec.ofInt 64 x ^^^ BitVec.ofInt 64 (-9223372036854775808)).toNat = _
    rw [BitVec.toNat_xor, ofInt_nat, hs]
    split
    · rw [xor_top (by omega)]; omega
    · obtain ⟨a, ha1, ha2⟩ : ∃ a : Nat, (x % 18446744073709551616).toNat = 2 ^ 63 + a ∧ a < 2 ^ 63 := ⟨(x % 18446744073709551616 - 9223372036854775808).toNat, by omega, by omega⟩
      rw [ha1, xor_top' ha2]; omega
  simp only [e]
  split
  · rename_i h
    rw [i64_nat (by omega), if_neg (by omega)]; omega
  · rename_i h
    rw [i64_nat (by omega), if_pos (by omega)]; omega
theorem xor_sign' (x : Int) : bitI .xor .i64 x (-9223372036854775808) = x % 18446744073709551616 - 9223372036854775808 := by
  rw [xor_sign]; split <;> rfl
/-- the sign alone -/
theorem and_sign (x : Int) : bitI .and .i64 x (-9223372036854775808) = if x % 18446744073709551616 < 9223372036854775808 then 0 else -9223372036854775808 := by
  unfold bitI
  have hs : (BitVec.ofInt 64 (-9223372036854775808)).toNat = 2 ^ 63 := by decide
  have e : (BitVec.ofInt IntKind.i64.bits x &&& BitVec.ofInt IntKind.i64.bits (-9223372036854775808)).toNat = if x % 18446744073709551616 < 9223372036854775808 then 0 else 9223372036854775808 := by
    show (BitVec.ofInt 64 x &&& BitVec.ofInt 64 (-9223372036854775808)).toNat = _
    rw [BitVec.toNat_and, ofInt_nat, hs]
    split
    · exact and_top (by omega)
    · obtain ⟨a, ha1, ha2⟩ : ∃ a : Nat, (x % 18446744073709551616).toNat = 2 ^ 63 + a ∧ a < 2 ^ 63 := ⟨(x % 18446744073709551616 - 9223372036854775808).toNat, by omega, by omega⟩
      rw [ha1]; exact and_top' ha2
  simp only [e]
  split
  · rfl
  · rfl
/-- a sign put on -/
theorem or_sign {x s : Int} (h : 0 ≤ x ∧ x < 9223372036854775808) (hs : s = 0 ∨ s = -9223372036854775808) : bitI .or .i64 x s = x + s := by
  unfold bitI
  have e : (BitVec.ofInt IntKind.i64.bits x ||| BitVec.ofInt IntKind.i64.bits s).toNat = (x + (if s = 0 then 0 else 9223372036854775808)).toNat := by
    show (BitVec.ofInt 64 x ||| BitVec.ofInt 64 s).toNat = _
    rw [BitVec.toNat_or, ofInt_nat]
    rcases hs with rfl | rfl
    · rw [if_pos rfl, show (BitVec.ofInt 64 0).toNat = 0 by decide, Nat.or_zero]; omega
    · rw [if_neg (by decide), show (BitVec.ofInt 64 (-9223372036854775808)).toNat = 2 ^ 63 * 1 by decide, Nat.or_comm, ← Nat.two_pow_add_eq_or_of_lt (by omega)]; omega
  simp only [e]
  rcases hs with rfl | rfl
  · rw [if_pos rfl, i64_nat (by omega), if_pos (by omega)]; omega
  · rw [if_neg (by decide), i64_nat (by omega), if_neg (by omega)]; omega
end Go.Sx
