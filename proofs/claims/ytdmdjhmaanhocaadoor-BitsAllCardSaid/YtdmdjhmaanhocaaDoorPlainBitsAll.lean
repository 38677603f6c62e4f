/- The law's ways, in numbers alone. No condition. -/
import Derived.Test.YtdmdjhmaanhocaaDoorRunBitsAll
import Derived.Test.YtdmdjhmaanhocaaDoorPlSame
namespace Go.Proofs.YtdmdjhmaanhocaaDoor.PlainBitsAll
open Go Go.Sx Go.Proofs.YtdmdjhmaanhocaaDoor.RunBitsAll

theorem plain (u : Nat → Int) (_h : KindOk u 0 [some .i64, some .i64, some .i64, some .i64]) : Law ⟨u, fnT⟩ lawR := by
  simp only [lawR, Law, chain, E.prop, E.den, Bi.den, Un.den]
  have s1 : IntKind.u32.wrap (u 0) < 2147483648 → IntKind.i32.wrap (u 0) = IntKind.u32.wrap (u 0) := fun h => by rw [u32_wrap] at *; rw [i32_wrap]; omega
  have s2 : 2147483648 ≤ IntKind.u32.wrap (u 0) → IntKind.i32.wrap (u 0) = IntKind.u32.wrap (u 0) + -4294967296 := fun h => by rw [u32_wrap] at *; rw [i32_wrap]; omega
  by_cases h32 : u 2 = 32
  · simp only [h32, clz32_same, ctz32_same, pop32_same, rot32_same, Int.zero_add]
    rcases (show IntKind.u32.wrap (u 0) < 2147483648 ∨ 2147483648 ≤ IntKind.u32.wrap (u 0) by omega) with hs | hs
    · simp [s1 hs]; omega
    · simp [s2 hs]; omega
  · by_cases h64 : u 2 = 64
    · simp only [h64, clz64_same, ctz64_same, pop64_same, rot64_same, Int.zero_add]
      rcases (show IntKind.u32.wrap (u 0) < 2147483648 ∨ 2147483648 ≤ IntKind.u32.wrap (u 0) by omega) with hs | hs
      · simp [s1 hs]; omega
      · simp [s2 hs]; omega
    · rcases (show IntKind.u32.wrap (u 0) < 2147483648 ∨ 2147483648 ≤ IntKind.u32.wrap (u 0) by omega) with hs | hs
      · simp [s1 hs, h32, h64]; omega
      · simp [s2 hs, h32, h64]; omega
end Go.Proofs.YtdmdjhmaanhocaaDoor.PlainBitsAll
