/- The library's counts and rolls are the reference's. No condition. -/
import Derived.Test.YtdmdjhmaanhocaaDoorPlLaw
namespace Go.Sx
open Go
theorem i32_wrap (n : Int) : IntKind.i32.wrap n = (n + 2147483648) % 4294967296 - 2147483648 := by
  simp [IntKind.wrap, IntKind.bits, IntKind.signed]; split <;> omega
theorem ctz_min : ∀ (w d n : Nat), ctzF w (n % 2 ^ w) = min (ctzF (w + d) n) w
  | 0, d, n => by simp [ctzF]
  | w + 1, d, n => by
    rw [show w + 1 + d = w + d + 1 by omega]
    have h1 : n % 2 ^ (w + 1) % 2 = n % 2 := by rw [Nat.pow_succ]; exact Nat.mod_mul_left_mod n (2 ^ w) 2
    have h2 : n % 2 ^ (w + 1) / 2 = n / 2 % 2 ^ w := by rw [Nat.pow_succ, Nat.mul_comm, Nat.mod_mul_right_div_self]
    simp only [ctzF, h1, h2, ctz_min w d]
    split <;> omega
theorem pat_u32 (x : Int) : pat 64 (IntKind.u32.wrap x) = pat 32 x := by
  have h := pat_cast 32 x
  rw [u32_wrap]
  have h2 : x % 4294967296 = ((pat 32 x : Nat) : Int) := by rw [h]; rfl
  rw [h2, pat_small (Nat.lt_of_lt_of_le (pat_lt 32 x) (by decide))]
theorem pat_u32' (x : Int) : pat 32 (IntKind.u32.wrap x) = pat 32 x := pat_wrap (w := 32) (k := .u32) x (Nat.le_refl _)
theorem pat_u64 (x : Int) : pat 64 (IntKind.u64.wrap x) = pat 64 x := pat_wrap (w := 64) (k := .u64) x (Nat.le_refl _)
theorem clz32_same (x : Int) : fnT 0 (IntKind.u32.wrap x) 32 0 = fnT 10 x 32 0 := by
  show ((clzF 32 (pat 32 (IntKind.u32.wrap x)) : Nat) : Int) = ((clzF 32 (pat 32 x) : Nat) : Int)
  rw [pat_u32']
theorem clz64_same (x : Int) : fnT 0 (IntKind.u64.wrap x) 64 0 = fnT 10 x 64 0 := by
  show ((clzF 64 (pat 64 (IntKind.u64.wrap x)) : Nat) : Int) = ((clzF 64 (pat 64 x) : Nat) : Int)
  rw [pat_u64]
theorem fn1_u64 (x : Int) : fnT 1 (IntKind.u64.wrap x) 64 0 = ((ctzF 64 (pat 64 x) : Nat) : Int) := by
  show ((ctzF 64 (pat 64 (IntKind.u64.wrap x)) : Nat) : Int) = _
  rw [pat_u64]
theorem fn11_start (x : Int) (w : Nat) : fnT 11 x (w : Int) 0 = ((ctzF w (pat w x) : Nat) : Int) := by
  simp [fnT]
theorem ctz32_same (x : Int) : (if b2i (decide (fnT 1 (IntKind.u64.wrap x) 64 0 < 32)) ≠ 0 then fnT 1 (IntKind.u64.wrap x) 64 0 else 32) = fnT 11 x 32 0 := by
  rw [fn1_u64, show fnT 11 x 32 0 = ((ctzF 32 (pat 32 x) : Nat) : Int) from fn11_start x 32, ← pat_mod (w := 32) (v := 64) x (by decide), ctz_min 32 32, show 32 + 32 = 64 from rfl]
  simp only [b2i_ne, decide_eq_true_eq]
  split <;> omega
theorem ctz64_same (x : Int) : (if b2i (decide (fnT 1 (IntKind.u64.wrap x) 64 0 < 64)) ≠ 0 then fnT 1 (IntKind.u64.wrap x) 64 0 else 64) = fnT 11 x 64 0 := by
  rw [fn1_u64, show fnT 11 x 64 0 = ((ctzF 64 (pat 64 x) : Nat) : Int) from fn11_start x 64]
  have := ctzF_le 64 (pat 64 x)
  simp only [b2i_ne, decide_eq_true_eq]
  split <;> omega
theorem popF_small {n : Nat} (h : n < 2 ^ 32) : popF 64 n = popF 32 n := by
  rw [show 64 = 32 + 32 from rfl, popF_add, Nat.div_eq_of_lt h, popF_zero, Nat.add_zero]
theorem pop32_same (x : Int) : fnT 2 (IntKind.u32.wrap x) 64 0 = fnT 12 x 32 0 := by
  show ((popF 64 (pat 64 (IntKind.u32.wrap x)) : Nat) : Int) = ((popF 32 (pat 32 x / 1) : Nat) : Int)
  rw [pat_u32, popF_small (pat_lt 32 x), Nat.div_one]
theorem pop64_same (x : Int) : fnT 2 (IntKind.u64.wrap x) 64 0 = fnT 12 x 64 0 := by
  show ((popF 64 (pat 64 (IntKind.u64.wrap x)) : Nat) : Int) = ((popF 64 (pat 64 x / 1) : Nat) : Int)
  rw [pat_u64, Nat.div_one]
theorem fn14_zero (x : Int) : fnT 14 x 0 0 = x := by simp [fnT]
theorem or_zero (a : Int) : bitI .or .i64 0 (IntKind.i64.wrap a) = IntKind.i64.wrap a := by
  rw [bitI_or, i64_bits, pat_zero, Nat.zero_or, pat_wrap (w := 64) (k := .i64) _ (Nat.le_refl _)]
  exact i64_pat (pat_pat a (Nat.le_refl 64))
theorem fn3_32 (x y : Int) : fnT 3 (IntKind.u32.wrap x) 32 y = fnT 3 x 32 y := by
  show ((rotF 32 (pat 32 (IntKind.u32.wrap x)) _ : Nat) : Int) = ((rotF 32 (pat 32 x) _ : Nat) : Int)
  rw [pat_u32']
theorem fn3_64 (x y : Int) : fnT 3 (IntKind.u64.wrap x) 64 y = fnT 3 x 64 y := by
  show ((rotF 64 (pat 64 (IntKind.u64.wrap x)) _ : Nat) : Int) = ((rotF 64 (pat 64 x) _ : Nat) : Int)
  rw [pat_u64]
theorem fn3_mod {x w y z : Int} (h : y % w = z % w) : fnT 3 x w y = fnT 3 x w z := by simp only [fnT, h]
theorem fn3_in32 (x y : Int) : 0 ≤ fnT 3 x 32 y ∧ fnT 3 x 32 y ≤ 4294967295 := by
  have : fnT 3 x 32 y = ((rotF 32 (pat 32 x) (y % 32).toNat : Nat) : Int) := rfl
  have h := rotF_lt 32 (pat 32 x) (y % 32).toNat
  omega
theorem rot32_same (x y : Int) : fnT 3 (IntKind.u32.wrap x) 32 (y % 32) = bitI .or .i64 0 (IntKind.i64.wrap (fnT 3 (fnT 14 x 0 0) 32 y)) := by
  have h := fn3_in32 x y
  rw [or_zero, fn14_zero, fn3_32, i64_in (by omega) (by omega), fn3_mod (show y % 32 % 32 = y % 32 by omega)]
theorem rot64_same (x y : Int) : IntKind.i64.wrap (fnT 3 (IntKind.u64.wrap x) 64 (y % 64)) = bitI .or .i64 0 (IntKind.i64.wrap (fnT 3 (fnT 14 x 0 0) 64 y)) := by
  rw [or_zero, fn14_zero, fn3_64, fn3_mod (show y % 64 % 64 = y % 64 by omega)]
end Go.Sx
