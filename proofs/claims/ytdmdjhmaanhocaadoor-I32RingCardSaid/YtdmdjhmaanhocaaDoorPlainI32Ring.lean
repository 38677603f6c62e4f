/- The law's ways, in numbers alone. No condition. -/
import Derived.Test.YtdmdjhmaanhocaaDoorRunI32Ring
import Derived.Test.YtdmdjhmaanhocaaDoorPlLaw
namespace Go.Proofs.YtdmdjhmaanhocaaDoor.PlainI32Ring
open Go Go.Sx Go.Proofs.YtdmdjhmaanhocaaDoor.RunI32Ring

theorem u32_eq {n m : Int} (h : n % 4294967296 = m % 4294967296) : IntKind.u32.wrap n = IntKind.u32.wrap m := by
  rw [u32_wrap, u32_wrap, h]
theorem plain (u : Nat → Int) (_h : KindOk u 0 [some .i64, some .i64, some .i64]) : Law ⟨u, fnT⟩ lawR := by
  simp only [lawR, Law, chain, E.prop, E.den, Bi.den, Un.den]
  have e1 : ∀ a b c : Int, IntKind.u32.wrap (IntKind.u32.wrap (a + b) * c) = IntKind.u32.wrap (IntKind.u32.wrap (a * c) + IntKind.u32.wrap (b * c)) := fun a b c => by
    simp only [u32_wrap]
    rw [Int.mul_emod, Int.emod_emod, ← Int.mul_emod, Int.add_mul, ← Int.add_emod]
  refine ⟨fun _ _ => by rw [Int.mul_comm], fun _ h => absurd (e1 _ _ _) h, fun h => absurd (by rw [Int.add_comm]) h, trivial⟩
end Go.Proofs.YtdmdjhmaanhocaaDoor.PlainI32Ring
