/- The law's ways, in numbers alone. No condition. -/
import Derived.Test.YtdmdjhmaanhocaaDoorRunI64Rules
import Derived.Test.YtdmdjhmaanhocaaDoorPlLaw
namespace Go.Proofs.YtdmdjhmaanhocaaDoor.PlainI64Rules
open Go Go.Sx Go.Proofs.YtdmdjhmaanhocaaDoor.RunI64Rules

theorem plain (u : Nat → Int) (h : KindOk u 0 [some .i64, some .i64]) : Law ⟨u, fnT⟩ lawR := by
  simp only [lawR, Law, chain, E.prop, E.den, Bi.den, Un.den]
  obtain ⟨h1, h2⟩ := of_i64 h.1
  obtain ⟨h3, h4⟩ := of_i64 h.2.1
  generalize u 0 = x at *
  generalize u 1 = y at *
  have e1 : IntKind.i64.wrap (IntKind.i64.wrap (x + y) - y) = x := by
    conv => rhs; rw [← i64_in h1 h2]
    apply i64_eq; rw [i64_wrap]; omega
  have e2 : IntKind.i64.wrap (fnT 3 (IntKind.u64.wrap (fnT 3 (IntKind.u64.wrap x) 64 (y % 64 % 64))) 64 ((0 - y % 64) % 64)) = x := rot_back h1 h2 (by omega)
  have e3 : IntKind.i64.wrap (IntKind.i64.wrap (IntKind.i64.wrap (x.tdiv y) * y) + x.tmod y) = x := by
    conv => rhs; rw [← i64_in h1 h2]
    apply i64_eq
    rw [Int.add_emod, i64_mod, Int.mul_emod, i64_mod, ← Int.mul_emod, ← Int.add_emod, Int.tdiv_mul_add_tmod]
  have e4 : y ≠ 0 → IntKind.i64.wrap (IntKind.i64.wrap (IntKind.i64.wrap (IntKind.u64.wrap x / IntKind.u64.wrap y) * y) + IntKind.i64.wrap (IntKind.u64.wrap x % IntKind.u64.wrap y)) = x := fun hy => by
    rw [u64_wrap, u64_wrap]
    exact div_back h1 h2 (by omega)
  by_cases hy : y = 0
  · simp only [e1, e2]
    simp [hy]
  · have e5 := e4 hy
    simp only [e1, e2, e3, e5]
    simp [hy]
end Go.Proofs.YtdmdjhmaanhocaaDoor.PlainI64Rules
