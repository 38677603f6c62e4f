/- Whole numbers that are wrapped: plain lemmas. No condition. -/
import Derived.Test.YtjgobpmhdeancaaSxO
namespace Go.Sx
open Go
theorem u64_wrap (n : Int) : IntKind.u64.wrap n = n % 18446744073709551616 := by simp [IntKind.wrap, IntKind.bits, IntKind.signed]
theorem i64_wrap (n : Int) : IntKind.i64.wrap n = (n + 9223372036854775808) % 18446744073709551616 - 9223372036854775808 := by
  simp [IntKind.wrap, IntKind.bits, IntKind.signed]; split <;> omega
theorem i64_eq {n m : Int} (h : n % 18446744073709551616 = m % 18446744073709551616) : IntKind.i64.wrap n = IntKind.i64.wrap m := by
  rw [i64_wrap, i64_wrap]; omega
theorem i64_in {n : Int} (h1 : -9223372036854775808 ≤ n) (h2 : n ≤ 9223372036854775807) : IntKind.i64.wrap n = n := by rw [i64_wrap]; omega
/-- what was wrapped is, up to a multiple, what it was -/
theorem i64_mod (n : Int) : IntKind.i64.wrap n % 18446744073709551616 = n % 18446744073709551616 := by rw [i64_wrap]; omega

theorem div_back {x y : Int} (hx1 : -9223372036854775808 ≤ x) (hx2 : x ≤ 9223372036854775807) (_hy : y % 18446744073709551616 ≠ 0) :
    IntKind.i64.wrap (IntKind.i64.wrap (IntKind.i64.wrap (x % 18446744073709551616 / (y % 18446744073709551616)) * y) + IntKind.i64.wrap (x % 18446744073709551616 % (y % 18446744073709551616))) = x := by
  rw [← i64_in hx1 hx2]
  apply i64_eq
  rw [i64_in hx1 hx2, Int.add_emod, i64_mod, i64_mod, ← Int.add_emod, Int.add_emod, Int.mul_emod, i64_mod]
  have h := Int.mul_ediv_add_emod (x % 18446744073709551616) (y % 18446744073709551616)
  generalize x % 18446744073709551616 / (y % 18446744073709551616) = q at *
  generalize x % 18446744073709551616 % (y % 18446744073709551616) = r at *
  rw [← Int.mul_emod, ← Int.add_emod]
  have h2 : (q * y) % 18446744073709551616 = (y % 18446744073709551616 * q) % 18446744073709551616 := by
    rw [Int.mul_emod, Int.mul_comm, Int.mul_emod (y % _) q]; simp
  rw [Int.add_emod, h2, ← Int.add_emod, h]
  omega
theorem of_i64 {n : Int} (h : (kindIv .i64).has n) : -9223372036854775808 ≤ n ∧ n ≤ 9223372036854775807 := of_kind h
theorem of_u64 {n : Int} (h : (kindIv .u64).has n) : 0 ≤ n ∧ n ≤ 18446744073709551615 := of_kind h
theorem of_u32 {n : Int} (h : (kindIv .u32).has n) : 0 ≤ n ∧ n ≤ 4294967295 := of_kind h
theorem of_bool {n : Int} (h : iv01.has n) : n = 0 ∨ n = 1 := by have h1 := h.1 _ rfl; have h2 := h.2 _ rfl; omega
end Go.Sx
