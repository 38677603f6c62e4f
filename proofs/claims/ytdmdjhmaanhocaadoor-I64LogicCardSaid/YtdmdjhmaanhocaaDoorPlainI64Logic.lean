/- The law's ways, in numbers alone. No condition. -/
import Derived.Test.YtdmdjhmaanhocaaDoorRunI64Logic
import Derived.Test.YtdmdjhmaanhocaaDoorPlLaw
namespace Go.Proofs.YtdmdjhmaanhocaaDoor.PlainI64Logic
open Go Go.Sx Go.Proofs.YtdmdjhmaanhocaaDoor.RunI64Logic

theorem plain (u : Nat → Int) (h : KindOk u 0 [some .i64, some .i64]) : Law ⟨u, fnT⟩ lawR := by
  simp only [lawR, Law, chain, E.prop, E.den, Bi.den, Un.den]
  obtain ⟨h1, h2⟩ := of_i64 h.1
  simp [xor_back (u 1) h1 h2, and_plus_or, or_less_and, and_andNot, andNot_or]
end Go.Proofs.YtdmdjhmaanhocaaDoor.PlainI64Logic
