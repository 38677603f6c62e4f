/- Patterns of bits: wraps, tests, and, or; the walks over the places of a number. No condition. -/
import Derived.Test.YtdmdjhmaanhocaaDoorPlBits
namespace Go.Sx
open Go

theorem pow_dvd {a b : Nat} (h : a ≤ b) : ((2 ^ a : Nat) : Int) ∣ ((2 ^ b : Nat) : Int) := Int.ofNat_dvd.2 (Nat.pow_dvd_pow 2 h)
theorem pow_pos' (w : Nat) : (0 : Int) < ((2 ^ w : Nat) : Int) := by have := Nat.two_pow_pos w; omega
theorem pat_cast (w : Nat) (x : Int) : ((pat w x : Nat) : Int) = x % ((2 ^ w : Nat) : Int) := by
  unfold pat; exact Int.toNat_of_nonneg (Int.emod_nonneg _ (by have := pow_pos' w; omega))
theorem pat_congr {w : Nat} {x y : Int} (h : x % ((2 ^ w : Nat) : Int) = y % ((2 ^ w : Nat) : Int)) : pat w x = pat w y := by unfold pat; rw [h]
theorem pat_of_dvd {w v : Nat} {x y : Int} (h : x % ((2 ^ v : Nat) : Int) = y % ((2 ^ v : Nat) : Int)) (hw : w ≤ v) : pat w x = pat w y := by
  apply pat_congr
  rw [← Int.emod_emod_of_dvd x (pow_dvd hw), h, Int.emod_emod_of_dvd y (pow_dvd hw)]
theorem wrap_mod (k : IntKind) (x : Int) : k.wrap x % ((2 ^ k.bits : Nat) : Int) = x % ((2 ^ k.bits : Nat) : Int) := by
  cases k <;> simp only [IntKind.wrap, IntKind.bits, IntKind.signed] <;> simp <;> (try split) <;> omega
theorem pat_wrap {w : Nat} {k : IntKind} (x : Int) (h : w ≤ k.bits) : pat w (k.wrap x) = pat w x := pat_of_dvd (wrap_mod k x) h
theorem pat_nat (w n : Nat) : pat w (n : Int) = n % 2 ^ w := by unfold pat; rw [← Int.natCast_emod]; rfl
theorem pat_pat {w v : Nat} (x : Int) (h : w ≤ v) : pat w ((pat v x : Nat) : Int) = pat w x := pat_of_dvd (by rw [pat_cast, Int.emod_emod_of_dvd _ (Int.dvd_refl _)]) h
theorem pat_mod {w v : Nat} (x : Int) (h : w ≤ v) : pat v x % 2 ^ w = pat w x := by
  rw [← pat_nat, pat_pat x h]
theorem pat_zero (w : Nat) : pat w 0 = 0 := by unfold pat; simp
/-- numbers of 64 bits with one pattern are one number -/
theorem i64_pat {x y : Int} (h : pat 64 x = pat 64 y) : IntKind.i64.wrap x = IntKind.i64.wrap y := by
  apply i64_eq
  have := congrArg (fun n : Nat => (n : Int)) h
  simp only [pat_cast] at this
  exact this
theorem i64_of_pat {x y : Int} (hx1 : -9223372036854775808 ≤ x) (hx2 : x ≤ 9223372036854775807) (hy1 : -9223372036854775808 ≤ y) (hy2 : y ≤ 9223372036854775807) (h : pat 64 x = pat 64 y) : x = y := by
  rw [← i64_in hx1 hx2, ← i64_in hy1 hy2]; exact i64_pat h
theorem pat_i64_self {x : Int} (hx1 : -9223372036854775808 ≤ x) (hx2 : x ≤ 9223372036854775807) : IntKind.i64.wrap ((pat 64 x : Nat) : Int) = x := by
  rw [i64_pat (pat_pat x (Nat.le_refl 64)), i64_in hx1 hx2]

theorem bitI_or (k : IntKind) (x y : Int) : bitI .or k x y = k.wrap ((pat k.bits x ||| pat k.bits y : Nat) : Int) := by
  simp only [bitI, BitVec.toNat_or, BitVec.toNat_ofInt]; rfl
theorem bitI_and (k : IntKind) (x y : Int) : bitI .and k x y = k.wrap ((pat k.bits x &&& pat k.bits y : Nat) : Int) := by
  simp only [bitI, BitVec.toNat_and, BitVec.toNat_ofInt]; rfl
theorem bitI_xor (k : IntKind) (x y : Int) : bitI .xor k x y = k.wrap ((pat k.bits x ^^^ pat k.bits y : Nat) : Int) := by
  simp only [bitI, BitVec.toNat_xor, BitVec.toNat_ofInt]; rfl
theorem pat_or (k : IntKind) (x y : Int) : pat k.bits (bitI .or k x y) = pat k.bits x ||| pat k.bits y := by
  rw [bitI_or, pat_wrap _ (Nat.le_refl _), pat_nat, Nat.mod_eq_of_lt (Nat.or_lt_two_pow (pat_lt _ _) (pat_lt _ _))]
theorem pat_and (k : IntKind) (x y : Int) : pat k.bits (bitI .and k x y) = pat k.bits x &&& pat k.bits y := by
  rw [bitI_and, pat_wrap _ (Nat.le_refl _), pat_nat, Nat.mod_eq_of_lt (Nat.and_lt_two_pow _ (pat_lt _ _))]
theorem pat_xor (k : IntKind) (x y : Int) : pat k.bits (bitI .xor k x y) = pat k.bits x ^^^ pat k.bits y := by
  rw [bitI_xor, pat_wrap _ (Nat.le_refl _), pat_nat, Nat.mod_eq_of_lt (Nat.xor_lt_two_pow (pat_lt _ _) (pat_lt _ _))]

/-- one bit, as the program asks for it -/
theorem testBit_pat {w k : Nat} (h : k < w) (x : Int) : (pat w x).testBit k = decide (x / ((2 ^ k : Nat) : Int) % 2 = 1) := by
  rw [Nat.testBit_eq_decide_div_mod_eq]
  congr 1
  have e : (((pat w x / 2 ^ k % 2 : Nat)) : Int) = x / ((2 ^ k : Nat) : Int) % 2 := by
    rw [Int.natCast_emod, Int.natCast_ediv, pat_cast]
    have hp := pow_pos' k
    have hw : ((2 ^ w : Nat) : Int) = ((2 ^ k : Nat) : Int) * (2 * ((2 ^ (w - k - 1) : Nat) : Int)) := by
      have : w = k + (1 + (w - k - 1)) := by omega
      conv => lhs; rw [this, Nat.pow_add, Nat.pow_add]
      simp
    have h1 := Int.mul_ediv_add_emod x ((2 ^ w : Nat) : Int)
    rw [hw] at h1
    rw [hw]
    generalize hr : x % (((2 ^ k : Nat) : Int) * (2 * ((2 ^ (w - k - 1) : Nat) : Int))) = r at *
    rw [← h1]
    rw [Int.mul_assoc ((2 ^ k : Nat) : Int), Int.add_comm, Int.add_mul_ediv_left _ _ (by omega), Int.mul_assoc, Int.add_mul_emod_self_left]
    rfl
  apply propext
  constructor
  · intro h; rw [← e, h]; rfl
  · intro h; rw [← e] at h; omega
theorem bit_shr {w k x : Int} (h0 : 0 ≤ k) (h1 : k < w) (h2 : w ≤ 64) : (x.fdiv (2 ^ min k.toNat 64)) % 2 = 1 ↔ (pat w.toNat x).testBit k.toNat = true := by
  rw [Nat.min_eq_left (by omega), Int.fdiv_eq_ediv_of_nonneg _ (Int.le_of_lt (Int.pow_pos (by decide))), testBit_pat (by omega)]
  simp [Int.natCast_pow]
end Go.Sx
