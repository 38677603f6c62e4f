/- The law's ways, in numbers alone. No condition. -/
import Derived.Test.YtdmdjhmaanhocaaDoorRunI32Shifts
import Derived.Test.YtdmdjhmaanhocaaDoorPlCount
namespace Go.Proofs.YtdmdjhmaanhocaaDoor.PlainI32Shifts
open Go Go.Sx Go.Proofs.YtdmdjhmaanhocaaDoor.RunI32Shifts

theorem plain (u : Nat → Int) (_h : KindOk u 0 [some .i64, some .i64, some .i64]) : Law ⟨u, fnT⟩ lawR := by
  simp only [lawR, Law, chain, E.prop, E.den, Bi.den, Un.den, i64_bits, u64_bits]
  have m1 : IntKind.u32.wrap (u 1 % 32 + u 2 % 1024 * 32) % 32 = u 1 % 32 := by rw [u32_wrap]; omega
  have m2 : u 1 % 32 % 32 = u 1 % 32 := by omega
  obtain ⟨k, hk, hk'⟩ : ∃ k : Nat, u 1 % 32 = k ∧ k < 32 := ⟨(u 1 % 32).toNat, by omega, by omega⟩
  simp only [m1, m2]
  simp only [hk, show ((k : Nat) : Int).toNat = k from Int.toNat_natCast k, Nat.min_eq_left (show k ≤ 64 by omega), Int.one_mul]
  have p2 : ((2 : Int) ^ k) = ((2 ^ k : Nat) : Int) := by simp
  have pk := Nat.two_pow_pos k
  have pl : 2 ^ k < 2 ^ 32 := Nat.pow_lt_pow_right (by decide) hk'
  have w : ∀ n, IntKind.u32.wrap (IntKind.i64.wrap n) = IntKind.u32.wrap n := fun n => by rw [u32_wrap, u32_wrap, i64_wrap]; omega
  have e0 : IntKind.u32.wrap (2 ^ k) = 2 ^ k := by
    rw [u32_wrap, p2]
    exact Int.emod_eq_of_lt (by omega) (by omega)
  have n0 : ¬ (2 : Int) ^ k = 0 := by rw [p2]; omega
  have e2 : (IntKind.u32.wrap (u 0)).fdiv (2 ^ k) = IntKind.u32.wrap (u 0) / 2 ^ k := Int.fdiv_eq_ediv_of_nonneg _ (Int.le_of_lt (Int.pow_pos (by decide)))
  simp only [w, e0, e2]
  simp [n0]
end Go.Proofs.YtdmdjhmaanhocaaDoor.PlainI32Shifts
