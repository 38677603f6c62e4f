/- Numbers of 32 bits: the low bits of sums, products, shifts and bit operations hang on the low bits alone. No condition. -/
import Derived.Test.YtdmdjhmaanhocaaDoorPlSame
import Derived.Test.YtdmdjhmaanhocaaDoorPlLaw
namespace Go.Sx
open Go

theorem u32_pat (x : Int) : IntKind.u32.wrap x = ((pat 32 x : Nat) : Int) := by rw [u32_wrap, pat_cast]; rfl
theorem i64_small (n : Nat) (h : n < 2 ^ 32) : IntKind.i64.wrap (n : Int) = n := i64_in (by omega) (by omega)
theorem u32_of_pat64 (x : Int) : IntKind.u32.wrap x = ((pat 64 x % 2 ^ 32 : Nat) : Int) := by rw [u32_pat, pat_mod _ (by decide)]
theorem low32_and (x y : Int) : bitI .and .i64 (IntKind.u32.wrap x) (IntKind.u32.wrap y) = IntKind.u32.wrap (bitI .and .i64 x y) := by
  rw [u32_of_pat64 (bitI .and .i64 x y), pand, Nat.and_mod_two_pow, pat_mod _ (by decide), pat_mod _ (by decide), bitI_and]
  show IntKind.i64.wrap ((pat 64 (IntKind.u32.wrap x) &&& pat 64 (IntKind.u32.wrap y) : Nat) : Int) = _
  rw [pat_u32, pat_u32]
  exact i64_small _ (Nat.and_lt_two_pow _ (pat_lt 32 y))
theorem low32_or (x y : Int) : bitI .or .i64 (IntKind.u32.wrap x) (IntKind.u32.wrap y) = IntKind.u32.wrap (bitI .or .i64 x y) := by
  rw [u32_of_pat64 (bitI .or .i64 x y), por, Nat.or_mod_two_pow, pat_mod _ (by decide), pat_mod _ (by decide), bitI_or]
  show IntKind.i64.wrap ((pat 64 (IntKind.u32.wrap x) ||| pat 64 (IntKind.u32.wrap y) : Nat) : Int) = _
  rw [pat_u32, pat_u32]
  exact i64_small _ (Nat.or_lt_two_pow (pat_lt 32 x) (pat_lt 32 y))
theorem low32_xor (x y : Int) : bitI .xor .i64 (IntKind.u32.wrap x) (IntKind.u32.wrap y) = IntKind.u32.wrap (bitI .xor .i64 x y) := by
  rw [u32_of_pat64 (bitI .xor .i64 x y), pxor, Nat.xor_mod_two_pow, pat_mod _ (by decide), pat_mod _ (by decide), bitI_xor]
  show IntKind.i64.wrap ((pat 64 (IntKind.u32.wrap x) ^^^ pat 64 (IntKind.u32.wrap y) : Nat) : Int) = _
  rw [pat_u32, pat_u32]
  exact i64_small _ (Nat.xor_lt_two_pow (pat_lt 32 x) (pat_lt 32 y))
theorem u32_i64 (x : Int) : IntKind.u32.wrap (IntKind.i64.wrap x) = IntKind.u32.wrap x := by rw [u32_wrap, u32_wrap, i64_wrap]; omega
theorem u32_add (x y : Int) : IntKind.u32.wrap (IntKind.u32.wrap x + IntKind.u32.wrap y) = IntKind.u32.wrap (x + y) := by simp only [u32_wrap]; omega
theorem u32_sub (x y : Int) : IntKind.u32.wrap (IntKind.u32.wrap x - IntKind.u32.wrap y) = IntKind.u32.wrap (x - y) := by simp only [u32_wrap]; omega
theorem u32_mul (x y : Int) : IntKind.u32.wrap (IntKind.u32.wrap x * IntKind.u32.wrap y) = IntKind.u32.wrap (x * y) := by
  simp only [u32_wrap]; rw [← Int.mul_emod]
theorem u32_mul1 (x y : Int) : IntKind.u32.wrap (IntKind.u32.wrap x * y) = IntKind.u32.wrap (x * y) := by
  simp only [u32_wrap]; rw [Int.mul_emod, Int.emod_emod, ← Int.mul_emod]
theorem u32_low (x : Int) : IntKind.u32.wrap x % 32 = x % 32 := by rw [u32_wrap]; omega
theorem u32_div (x y : Int) : IntKind.i64.wrap (IntKind.u32.wrap x / IntKind.u32.wrap y) = IntKind.u32.wrap x / IntKind.u32.wrap y := by
  have h1 : 0 ≤ IntKind.u32.wrap x ∧ IntKind.u32.wrap x ≤ 4294967295 := by rw [u32_wrap]; omega
  have h2 : 0 ≤ IntKind.u32.wrap y := by rw [u32_wrap]; omega
  have h3 := Int.ediv_nonneg h1.1 h2
  have h4 := Int.ediv_le_self (IntKind.u32.wrap y) h1.1
  exact i64_in (by omega) (by omega)
theorem fdiv_bd {a : Int} (m : Nat) (h : 0 ≤ a) : 0 ≤ a.fdiv (2 ^ m) ∧ a.fdiv (2 ^ m) ≤ a := by
  have h0 : (0 : Int) < 2 ^ m := Int.pow_pos (by decide)
  rw [Int.fdiv_eq_ediv_of_nonneg _ (by omega)]
  exact ⟨Int.ediv_nonneg h (by omega), Int.ediv_le_self _ h⟩
theorem u32_shr (x : Int) (m : Nat) : IntKind.i64.wrap ((IntKind.u32.wrap x).fdiv (2 ^ m)) = (IntKind.u32.wrap x).fdiv (2 ^ m) := by
  have h1 : 0 ≤ IntKind.u32.wrap x ∧ IntKind.u32.wrap x ≤ 4294967295 := by rw [u32_wrap]; omega
  have h2 := fdiv_bd m h1.1
  exact i64_in (by omega) (by omega)
theorem rot32_or (x y : Int) : bitI .or .i64 0 (IntKind.i64.wrap (fnT 3 (fnT 14 (IntKind.u32.wrap x) 0 0) 32 y)) = fnT 3 (IntKind.u32.wrap x) 32 y := by
  rw [or_zero, fn14_zero]
  have := fn3_in32 (IntKind.u32.wrap x) y
  exact i64_in (by omega) (by omega)
theorem eq32 (x y : Int) : IntKind.i32.wrap x = IntKind.i32.wrap y ↔ IntKind.u32.wrap x = IntKind.u32.wrap y := by
  rw [i32_wrap, i32_wrap, u32_wrap, u32_wrap]; omega
theorem u32_u32 (x : Int) : IntKind.u32.wrap (IntKind.u32.wrap x) = IntKind.u32.wrap x := by rw [u32_wrap, u32_wrap]; omega
theorem fn10_u32 (x : Int) : fnT 10 (IntKind.u32.wrap x) 32 0 = fnT 10 x 32 0 := by rw [← clz32_same, ← clz32_same x, u32_u32]
theorem fn11_u32 (x : Int) : fnT 11 (IntKind.u32.wrap x) 32 0 = fnT 11 x 32 0 := by
  have h := fn11_start (IntKind.u32.wrap x) 32
  have h' := fn11_start x 32
  rw [pat_u32'] at h
  exact h.trans h'.symm
theorem fn12_u32 (x : Int) : fnT 12 (IntKind.u32.wrap x) 32 0 = fnT 12 x 32 0 := by rw [← pop32_same, ← pop32_same x, u32_u32]
end Go.Sx
