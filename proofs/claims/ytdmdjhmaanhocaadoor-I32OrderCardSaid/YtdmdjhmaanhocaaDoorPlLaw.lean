/- Laws of bit operations and rolls. No condition. -/
import Derived.Test.YtdmdjhmaanhocaaDoorPlCon
namespace Go.Sx
open Go

/-! ### and, or, exclusive or -/
theorem two_bit {a u i : Nat} (hu : u < 2) : (2 * a + u).testBit i = if i < 1 then u.testBit i else a.testBit (i - 1) := by
  have := Nat.testBit_two_pow_mul_add a (show u < 2 ^ 1 by omega) i
  simpa using this
theorem or_two {a b u v : Nat} (hu : u < 2) (hv : v < 2) : (2 * a + u) ||| (2 * b + v) = 2 * (a ||| b) + (u ||| v) := by
  apply Nat.eq_of_testBit_eq; intro i
  rw [Nat.testBit_or, two_bit hu, two_bit hv, two_bit (show (u ||| v) < 2 ^ 1 from Nat.or_lt_two_pow hu hv), Nat.testBit_or, Nat.testBit_or]
  split <;> rfl
theorem xor_two {a b u v : Nat} (hu : u < 2) (hv : v < 2) : (2 * a + u) ^^^ (2 * b + v) = 2 * (a ^^^ b) + (u ^^^ v) := by
  apply Nat.eq_of_testBit_eq; intro i
  rw [Nat.testBit_xor, two_bit hu, two_bit hv, two_bit (show (u ^^^ v) < 2 ^ 1 from Nat.xor_lt_two_pow hu hv), Nat.testBit_xor, Nat.testBit_xor]
  split <;> rfl
theorem and_or_xor : ∀ (n a b : Nat), a < 2 ^ n → b < 2 ^ n → (a &&& b) + (a ||| b) = a + b ∧ (a ||| b) = (a ^^^ b) + (a &&& b)
  | 0, a, b, ha, hb => by
    have ha : a = 0 := by simpa using ha
    have hb : b = 0 := by simpa using hb
    subst ha hb; decide
  | n + 1, a, b, ha, hb => by
    rw [Nat.pow_succ] at ha hb
    obtain ⟨h1, h2⟩ := and_or_xor n (a / 2) (b / 2) (by omega) (by omega)
    have ea : a = 2 * (a / 2) + a % 2 := by omega
    have eb : b = 2 * (b / 2) + b % 2 := by omega
    have hu : a % 2 < 2 := by omega
    have hv : b % 2 < 2 := by omega
    generalize a / 2 = a' at *; generalize b / 2 = b' at *
    generalize a % 2 = u at *; generalize b % 2 = v at *
    rw [ea, eb, and_two hu hv, or_two hu hv, xor_two hu hv]
    have k : ∀ u, u < 2 → ∀ v, v < 2 → (u &&& v) + (u ||| v) = u + v ∧ (u ||| v) = (u ^^^ v) + (u &&& v) := by decide
    have := k u hu v hv
    omega
theorem pat64_mod (x : Int) : x % 18446744073709551616 = ((pat 64 x : Nat) : Int) := (pat_cast 64 x).symm
theorem pand (x y : Int) : pat 64 (bitI .and .i64 x y) = pat 64 x &&& pat 64 y := pat_and .i64 x y
theorem por (x y : Int) : pat 64 (bitI .or .i64 x y) = pat 64 x ||| pat 64 y := pat_or .i64 x y
theorem pxor (x y : Int) : pat 64 (bitI .xor .i64 x y) = pat 64 x ^^^ pat 64 y := pat_xor .i64 x y
theorem i64_range (n : Int) : -9223372036854775808 ≤ IntKind.i64.wrap n ∧ IntKind.i64.wrap n ≤ 9223372036854775807 := by rw [i64_wrap]; omega
theorem bitI_range (op : BinOp) (x y : Int) : -9223372036854775808 ≤ bitI op .i64 x y ∧ bitI op .i64 x y ≤ 9223372036854775807 := i64_range _
theorem xor_back {x : Int} (y : Int) (h1 : -9223372036854775808 ≤ x) (h2 : x ≤ 9223372036854775807) : bitI .xor .i64 (bitI .xor .i64 x y) y = x := by
  apply i64_of_pat (bitI_range _ _ _).1 (bitI_range _ _ _).2 h1 h2
  rw [pxor, pxor, Nat.xor_assoc, Nat.xor_self, Nat.xor_zero]
theorem and_plus_or (x y : Int) : IntKind.i64.wrap (bitI .and .i64 x y + bitI .or .i64 x y) = IntKind.i64.wrap (x + y) := by
  apply i64_eq
  rw [Int.add_emod, pat64_mod (bitI .and _ _ _), pat64_mod (bitI .or _ _ _), pand, por, Int.add_emod x, pat64_mod x, pat64_mod y, ← Int.natCast_add, ← Int.natCast_add, (and_or_xor 64 _ _ (pat_lt _ _) (pat_lt _ _)).1]
theorem or_less_and (x y : Int) : IntKind.i64.wrap (bitI .or .i64 x y - bitI .and .i64 x y) = bitI .xor .i64 x y := by
  rw [← i64_in (bitI_range .xor x y).1 (bitI_range .xor x y).2]
  apply i64_eq
  rw [Int.sub_emod, pat64_mod (bitI .and _ _ _), pat64_mod (bitI .or _ _ _), pat64_mod (bitI .xor _ _ _), pand, por, pxor, (and_or_xor 64 _ _ (pat_lt _ _) (pat_lt _ _)).2, Int.natCast_add, Int.add_sub_cancel]
  have := Nat.xor_lt_two_pow (pat_lt 64 x) (pat_lt 64 y)
  omega
theorem bv_wrap (n : Int) : BitVec.ofInt 64 (IntKind.i64.wrap n) = BitVec.ofInt 64 n := by
  apply BitVec.eq_of_toNat_eq
  rw [BitVec.toNat_ofInt, BitVec.toNat_ofInt]
  exact pat_wrap (w := 64) (k := .i64) n (Nat.le_refl _)
theorem bv_back (v : BitVec 64) : BitVec.ofInt 64 (v.toNat : Int) = v := by
  apply BitVec.eq_of_toNat_eq
  rw [BitVec.toNat_ofInt]
  have := v.isLt
  omega
theorem bv_and (x y : Int) : BitVec.ofInt 64 (bitI .and .i64 x y) = BitVec.ofInt 64 x &&& BitVec.ofInt 64 y := by
  simp only [bitI]; rw [bv_wrap]; exact bv_back _
theorem bv_or (x y : Int) : BitVec.ofInt 64 (bitI .or .i64 x y) = BitVec.ofInt 64 x ||| BitVec.ofInt 64 y := by
  simp only [bitI]; rw [bv_wrap]; exact bv_back _
theorem and_andNot (x y : Int) : bitI .andNot .i64 (bitI .and .i64 x y) x = 0 := by
  have e : BitVec.ofInt 64 (bitI .and .i64 x y) &&& ~~~ BitVec.ofInt 64 x = 0#64 := by
    rw [bv_and]; ext i hi; simp; intro h; simp [h]
  show IntKind.i64.wrap (((BitVec.ofInt 64 (bitI .and .i64 x y) &&& ~~~ BitVec.ofInt 64 x).toNat : Nat) : Int) = 0
  rw [e]; rfl
theorem andNot_or (x y : Int) : bitI .andNot .i64 x (bitI .or .i64 x y) = 0 := by
  have e : BitVec.ofInt 64 x &&& ~~~ BitVec.ofInt 64 (bitI .or .i64 x y) = 0#64 := by
    rw [bv_or]; ext i hi; simp; intro h; simp [h]
  show IntKind.i64.wrap (((BitVec.ofInt 64 x &&& ~~~ BitVec.ofInt 64 (bitI .or .i64 x y)).toNat : Nat) : Int) = 0
  rw [e]; rfl

/-! ### rolls -/
theorem rotF_back {w n k l : Nat} (hn : n < 2 ^ w) (hk : k < w) (hl : l < w) (h : (k + l) % w = 0) : rotF w (rotF w n k) l = n := by
  apply Nat.eq_of_testBit_eq
  intro j
  rw [testBit_rotF (rotF_lt _ _ _) hl, testBit_rotF hn hk]
  have hw : 0 < w := by omega
  by_cases hj : j < w
  · simp only [hj, decide_true, Bool.true_and, Nat.mod_lt _ hw]
    have hs : k + l = 0 ∨ k + l = w := by
      rcases Nat.lt_or_ge (k + l) w with h1 | h1
      · rw [Nat.mod_eq_of_lt h1] at h; exact .inl h
      · rw [Nat.mod_eq_sub_mod h1, Nat.mod_eq_of_lt (by omega)] at h; exact .inr (by omega)
    have e : ((j + (w - l)) % w + (w - k)) % w = j := by
      rw [Nat.mod_add_mod]
      rcases hs with hs | hs
      · rw [show j + (w - l) + (w - k) = j + w + w by omega, Nat.add_mod_right, Nat.add_mod_right, Nat.mod_eq_of_lt hj]
      · rw [show j + (w - l) + (w - k) = j + w by omega, Nat.add_mod_right, Nat.mod_eq_of_lt hj]
    rw [e]
  · have : n.testBit j = false := Nat.testBit_lt_two_pow (Nat.lt_of_lt_of_le hn (Nat.pow_le_pow_right (by decide) (by omega)))
    simp [hj, this]
theorem fn3_pat' (x y : Int) : pat 64 (fnT 3 x 64 y) = rotF 64 (pat 64 x) (y % 64).toNat := by
  simp only [fnT]; exact pat_small (rotF_lt _ _ _)
theorem rot_back {x a b : Int} (h1 : -9223372036854775808 ≤ x) (h2 : x ≤ 9223372036854775807) (h : (a + b) % 64 = 0) : IntKind.i64.wrap (fnT 3 (IntKind.u64.wrap (fnT 3 (IntKind.u64.wrap x) 64 a)) 64 b) = x := by
  have p64 : ∀ y, pat 64 (IntKind.u64.wrap y) = pat 64 y := fun y => pat_wrap (w := 64) (k := .u64) y (Nat.le_refl _)
  apply i64_of_pat (i64_range _).1 (i64_range _).2 h1 h2
  rw [pat_wrap (w := 64) (k := .i64) _ (Nat.le_refl _), fn3_pat', p64, fn3_pat', p64]
  apply rotF_back (pat_lt _ _) (by omega) (by omega)
  omega
theorem popF_rot {w n k : Nat} (hn : n < 2 ^ w) (hk : k ≤ w) : popF w (rotF w n k) = popF w n := by
  have hq : n / 2 ^ (w - k) < 2 ^ k := by
    have : n < 2 ^ k * 2 ^ (w - k) := by rw [← Nat.pow_add]; rwa [show k + (w - k) = w by omega]
    exact (Nat.div_lt_iff_lt_mul (Nat.two_pow_pos _)).2 this
  have e : rotF w n k = 2 ^ k * (n % 2 ^ (w - k)) + n / 2 ^ (w - k) := by
    have hw : 2 ^ w = 2 ^ k * 2 ^ (w - k) := by rw [← Nat.pow_add, show k + (w - k) = w by omega]
    have h1 : n * 2 ^ k = 2 ^ w * (n / 2 ^ (w - k)) + 2 ^ k * (n % 2 ^ (w - k)) := by
      have := Nat.div_add_mod n (2 ^ (w - k))
      conv => lhs; rw [← this]
      rw [Nat.add_mul, hw, Nat.mul_comm (n % _), Nat.mul_comm (2 ^ (w - k) * _), Nat.mul_assoc]
    have h2 : 2 ^ k * (n % 2 ^ (w - k)) + n / 2 ^ (w - k) < 2 ^ w := by
      have h3 := Nat.mod_lt n (Nat.two_pow_pos (w - k))
      have h4 : 2 ^ k * (n % 2 ^ (w - k) + 1) ≤ 2 ^ k * 2 ^ (w - k) := Nat.mul_le_mul_left _ h3
      rw [Nat.mul_add, Nat.mul_one] at h4
      omega
    rw [rotF, h1, Nat.add_assoc, Nat.mul_add_mod, Nat.mod_eq_of_lt h2]
  have h1 : popF w (rotF w n k) = popF k (rotF w n k) + popF (w - k) (rotF w n k / 2 ^ k) := by
    rw [← popF_add, show k + (w - k) = w by omega]
  have h2 : popF w n = popF (w - k) n + popF k (n / 2 ^ (w - k)) := by
    rw [← popF_add, show w - k + k = w by omega]
  rw [h1, h2, e, Nat.mul_add_div (Nat.two_pow_pos k), Nat.div_eq_of_lt hq, Nat.add_zero, popF_mod]
  rw [← popF_mod k, Nat.mul_add_mod, Nat.mod_eq_of_lt hq, Nat.add_comm]
end Go.Sx
