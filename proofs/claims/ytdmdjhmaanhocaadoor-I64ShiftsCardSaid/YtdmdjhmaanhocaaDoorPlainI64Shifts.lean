/- The law's ways, in numbers alone. No condition. -/
import Derived.Test.YtdmdjhmaanhocaaDoorRunI64Shifts
import Derived.Test.YtdmdjhmaanhocaaDoorPlCount
namespace Go.Proofs.YtdmdjhmaanhocaaDoor.PlainI64Shifts
open Go Go.Sx Go.Proofs.YtdmdjhmaanhocaaDoor.RunI64Shifts

theorem plain (u : Nat → Int) (_h : KindOk u 0 [some .i64, some .i64, some .i64]) : Law ⟨u, fnT⟩ lawR := by
  simp only [lawR, Law, chain, E.prop, E.den, Bi.den, Un.den, i64_bits, u64_bits]
  have m1 : (u 1 % 64 + u 2 % 1024 * 64) % 64 = u 1 % 64 := by omega
  have m2 : u 1 % 64 % 64 = u 1 % 64 := by omega
  obtain ⟨k, hk, hk'⟩ : ∃ k : Nat, u 1 % 64 = k ∧ k < 64 := ⟨(u 1 % 64).toNat, by omega, by omega⟩
  simp only [m1, m2]
  simp only [hk, show ((k : Nat) : Int).toNat = k from Int.toNat_natCast k, Nat.min_eq_left (Nat.le_of_lt hk'), Int.one_mul]
  have p2 : ((2 : Int) ^ k) = ((2 ^ k : Nat) : Int) := by simp
  have pk := Nat.two_pow_pos k
  have pl : 2 ^ k < 2 ^ 64 := Nat.pow_lt_pow_right (by decide) hk'
  have e0 : IntKind.i64.wrap (2 ^ k) % 18446744073709551616 = ((2 ^ k : Nat) : Int) := by
    rw [i64_mod, p2]
    exact Int.emod_eq_of_lt (by omega) (by omega)
  have n0 : IntKind.i64.wrap (2 ^ k) ≠ 0 := fun h => by rw [h] at e0; simp at e0; omega
  have e1 : IntKind.i64.wrap (u 0 * 2 ^ k) = IntKind.i64.wrap (u 0 * IntKind.i64.wrap (2 ^ k)) := by
    apply i64_eq
    rw [Int.mul_emod, Int.mul_emod (u 0) (IntKind.i64.wrap _), i64_mod]
  have e2 : (IntKind.u64.wrap (u 0)).fdiv (2 ^ k) = IntKind.u64.wrap (u 0) / IntKind.u64.wrap (IntKind.i64.wrap (2 ^ k)) := by
    rw [Int.fdiv_eq_ediv_of_nonneg _ (Int.le_of_lt (Int.pow_pos (by decide))), u64_wrap (IntKind.i64.wrap _), e0, p2]
  simp only [← e1, e2]
  simp [n0]
end Go.Proofs.YtdmdjhmaanhocaaDoor.PlainI64Shifts
