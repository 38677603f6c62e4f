/- Bytes that are put together. No condition. -/
import Derived.Test.YtjgobpmhdeancaaPlFact
import Derived.Test.YtjgobpmhdeancaaPlNum
namespace Go.Sx
open Go
theorem u8_wrap (n : Int) : IntKind.u8.wrap n = n % 256 := by simp [IntKind.wrap, IntKind.bits, IntKind.signed]
theorem u32_wrap (n : Int) : IntKind.u32.wrap n = n % 4294967296 := by simp [IntKind.wrap, IntKind.bits, IntKind.signed]
theorem u16_wrap (n : Int) : IntKind.u16.wrap n = n % 65536 := by simp [IntKind.wrap, IntKind.bits, IntKind.signed]
theorem ofInt_nat64 (x : Int) : (BitVec.ofInt 64 x).toNat = (x % 18446744073709551616).toNat := by
  rw [BitVec.toNat_ofInt]; rfl
theorem or_byte {z b : Int} (h8 : z % 256 = 0) (hb : 0 ≤ b ∧ b < 256) : bitI .or .i64 z b = IntKind.i64.wrap (z + b) := by
  unfold bitI
  have e : (BitVec.ofInt IntKind.i64.bits z ||| BitVec.ofInt IntKind.i64.bits b).toNat = (z % 18446744073709551616).toNat + b.toNat := by
    show (BitVec.ofInt 64 z ||| BitVec.ofInt 64 b).toNat = _
    rw [BitVec.toNat_or, ofInt_nat64, ofInt_nat64]
    have e1 : (b % 18446744073709551616).toNat = b.toNat := by omega
    have e2 : (z % 18446744073709551616).toNat = 2 ^ 8 * ((z % 18446744073709551616).toNat / 256) := by omega
    rw [e1, e2]
    exact (Nat.two_pow_add_eq_or_of_lt (by omega) _).symm
  simp only [e]
  rw [i64_wrap, i64_wrap]
  omega
theorem or_zero {b : Int} (hb : 0 ≤ b ∧ b < 256) : bitI .or .i64 0 b = b := by
  rw [or_byte (by decide) hb, i64_in (by omega) (by omega)]; omega
theorem or_step {e b r : Int} (hr : e * 256 + b = r) (he : 0 ≤ e ∧ e < 36028797018963968) (hb : 0 ≤ b ∧ b < 256) : bitI .or .i64 (IntKind.i64.wrap (e * 256)) b = r := by
  rw [i64_in (by omega) (by omega), or_byte (by omega) hb, i64_in (by omega) (by omega), hr]
theorem or_last {e b : Int} (_he : 0 ≤ e ∧ e < 72057594037927936) (hb : 0 ≤ b ∧ b < 256) : bitI .or .i64 (IntKind.i64.wrap (e * 256)) b = IntKind.i64.wrap (e * 256 + b) := by
  have hm : IntKind.i64.wrap (e * 256) % 256 = 0 := by rw [i64_wrap]; omega
  rw [or_byte hm hb, i64_wrap, i64_wrap, i64_wrap]; omega
end Go.Sx
