/- The law's ways, in numbers alone. No condition. -/
import Derived.Test.YtdmdjhmaanhocaaDoorRunI32Rules
import Derived.Test.YtdmdjhmaanhocaaDoorPlLaw
namespace Go.Proofs.YtdmdjhmaanhocaaDoor.PlainI32Rules
open Go Go.Sx Go.Proofs.YtdmdjhmaanhocaaDoor.RunI32Rules

theorem i32_wrap (n : Int) : IntKind.i32.wrap n = (n + 2147483648) % 4294967296 - 2147483648 := by
  simp [IntKind.wrap, IntKind.bits, IntKind.signed]; split <;> omega
theorem rot_back32 {x a b : Int} (h1 : 0 ≤ x) (h2 : x ≤ 4294967295) (h : (a + b) % 32 = 0) : fnT 3 (fnT 3 x 32 a) 32 b = x := by
  obtain ⟨n, rfl⟩ := Int.eq_ofNat_of_zero_le h1
  have e1 : fnT 3 (n : Int) 32 a = (rotF 32 n (a % 32).toNat : Nat) := by
    simp only [fnT]
    rw [show (32 : Int).toNat = 32 from rfl, pat_small (show n < 2 ^ 32 by omega)]
  rw [e1]
  have e2 : fnT 3 ((rotF 32 n (a % 32).toNat : Nat) : Int) 32 b = (rotF 32 (rotF 32 n (a % 32).toNat) (b % 32).toNat : Nat) := by
    simp only [fnT]
    rw [show (32 : Int).toNat = 32 from rfl, pat_small (rotF_lt _ _ _)]
  rw [e2, rotF_back (by omega) (by omega) (by omega) (by omega)]
theorem plain (u : Nat → Int) (_h : KindOk u 0 [some .i64, some .i64]) : Law ⟨u, fnT⟩ lawR := by
  simp only [lawR, Law, chain, E.prop, E.den, Bi.den, Un.den]
  have ex : IntKind.u32.wrap (IntKind.i32.wrap (u 0)) = IntKind.u32.wrap (u 0) := by rw [u32_wrap, u32_wrap, i32_wrap]; omega
  have ey : IntKind.u32.wrap (IntKind.i32.wrap (u 1)) = IntKind.u32.wrap (u 1) := by rw [u32_wrap, u32_wrap, i32_wrap]; omega
  have ix : IntKind.i32.wrap (u 0) = -2147483648 → IntKind.u32.wrap (u 0) = 2147483648 := fun h => by rw [← ex, h]; rfl
  have iy : IntKind.i32.wrap (u 1) = -1 → IntKind.u32.wrap (u 1) = 4294967295 := fun h => by rw [← ey, h]; rfl
  have rx : 0 ≤ IntKind.u32.wrap (u 0) ∧ IntKind.u32.wrap (u 0) ≤ 4294967295 := by rw [u32_wrap]; omega
  have em : ∀ n, IntKind.u32.wrap n % 4294967296 = n % 4294967296 := fun n => by rw [u32_wrap]; omega
  have e3 : ∀ m : Int, m = (IntKind.i32.wrap (u 0)).tmod (IntKind.i32.wrap (u 1)) → IntKind.u32.wrap (IntKind.u32.wrap (IntKind.u32.wrap ((IntKind.i32.wrap (u 0)).tdiv (IntKind.i32.wrap (u 1))) * IntKind.u32.wrap (u 1)) + IntKind.u32.wrap m) = IntKind.u32.wrap (u 0) := fun m hm => by
    rw [← ex, u32_wrap, u32_wrap (IntKind.i32.wrap (u 0)), Int.add_emod, em, em, Int.mul_emod, em, ← ey, em, ← Int.mul_emod, ← Int.add_emod, hm, Int.tdiv_mul_add_tmod]
  have e3 := e3 _ rfl
  have e1 : IntKind.u32.wrap (IntKind.u32.wrap (IntKind.u32.wrap (u 0) + IntKind.u32.wrap (u 1)) - IntKind.u32.wrap (u 1)) = IntKind.u32.wrap (u 0) := by
    simp only [u32_wrap]; omega
  have e2 : fnT 3 (fnT 3 (IntKind.u32.wrap (u 0)) 32 (IntKind.u32.wrap (u 1) % 32 % 32)) 32 ((0 - IntKind.u32.wrap (u 1) % 32) % 32) = IntKind.u32.wrap (u 0) := rot_back32 rx.1 rx.2 (by omega)
  have e4 : IntKind.u32.wrap (u 0) / IntKind.u32.wrap (u 1) * IntKind.u32.wrap (u 1) + IntKind.u32.wrap (u 0) % IntKind.u32.wrap (u 1) = IntKind.u32.wrap (u 0) := by
    rw [Int.mul_comm]; exact Int.mul_ediv_add_emod _ _
  have ry : 0 ≤ IntKind.u32.wrap (u 1) := by rw [u32_wrap]; omega
  have hq1 := Int.ediv_nonneg rx.1 ry
  have hq2 := Int.ediv_le_self (IntKind.u32.wrap (u 1)) rx.1
  have e5 : IntKind.i64.wrap (IntKind.u32.wrap (u 0) / IntKind.u32.wrap (u 1)) = IntKind.u32.wrap (u 0) / IntKind.u32.wrap (u 1) := i64_in (by omega) (by omega)
  have e6 : IntKind.u32.wrap (IntKind.u32.wrap (IntKind.u32.wrap (u 0) / IntKind.u32.wrap (u 1) * IntKind.u32.wrap (u 1)) + IntKind.u32.wrap (u 0) % IntKind.u32.wrap (u 1)) = IntKind.u32.wrap (u 0) := by
    rw [u32_wrap, Int.add_emod, em, ← Int.add_emod, e4]; omega
  simp only [e1, e2, e3, e4, e5, e6]
  refine ⟨by simp, by simp, by simp, fun _ _ _ h _ h' => absurd (ix h) h', fun _ _ _ _ h _ h' => absurd (iy h) h', by simp, by simp, by simp, by simp, by simp, by simp, by simp, by simp, trivial⟩
end Go.Proofs.YtdmdjhmaanhocaaDoor.PlainI32Rules
