/- The law's ways, in numbers alone. No condition. -/
import Derived.Test.YtdmdjhmaanhocaaDoorRunI64Ring
import Derived.Test.YtdmdjhmaanhocaaDoorPlCon
namespace Go.Proofs.YtdmdjhmaanhocaaDoor.PlainI64Ring
open Go Go.Sx Go.Proofs.YtdmdjhmaanhocaaDoor.RunI64Ring

theorem plain (u : Nat → Int) (_h : KindOk u 0 [some .i64, some .i64, some .i64]) : Law ⟨u, fnT⟩ lawR := by
  simp only [lawR, Law, chain, E.prop, E.den, Bi.den, Un.den]
  have e1 : IntKind.i64.wrap (IntKind.i64.wrap (u 0 + u 1) * u 2) = IntKind.i64.wrap (IntKind.i64.wrap (u 0 * u 2) + IntKind.i64.wrap (u 1 * u 2)) := by
    apply i64_eq
    rw [Int.mul_emod, i64_mod, ← Int.mul_emod, Int.add_mul, Int.add_emod (IntKind.i64.wrap _), i64_mod, i64_mod, ← Int.add_emod]
  refine ⟨fun _ _ => by rw [Int.mul_comm], fun _ h => absurd e1 h, fun h => absurd (by rw [Int.add_comm]) h, trivial⟩
end Go.Proofs.YtdmdjhmaanhocaaDoor.PlainI64Ring
