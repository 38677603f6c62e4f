/- The law I32All in numbers alone: the code's own tests leave one way, and it answers true. No condition. -/
import Derived.Test.YtdmdjhmaanhocaaDoorRunI32All
import Derived.Test.YtdmdjhmaanhocaaDoorOp32
namespace Go.Proofs.YtdmdjhmaanhocaaDoor.PlainI32All
open Go Go.Sx Go.Sx.Door Go.Proofs.YtdmdjhmaanhocaaDoor.RunI32All Go.Proofs.YtdmdjhmaanhocaaDoor.Con Go.Proofs.YtdmdjhmaanhocaaDoor.Op32
theorem plain (u : Nat → Int) (_hk : KindOk u 0 [some .i64, some .i64, some .i64]) : Law ⟨u, fnT⟩ lawR := by
  simp [lawR, Law, chain, E.prop, E.den]
end Go.Proofs.YtdmdjhmaanhocaaDoor.PlainI32All
