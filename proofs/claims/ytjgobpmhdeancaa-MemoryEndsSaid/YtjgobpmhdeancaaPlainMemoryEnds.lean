/- The law MemoryEnds in numbers alone. No condition. -/
import Derived.Test.YtjgobpmhdeancaaRunMemoryEnds
import Derived.Test.YtjgobpmhdeancaaPlFact
namespace Go.Proofs.Ytjgobpmhdeancaa.PlainMemoryEnds
open Go Go.Sx Go.Proofs.Ytjgobpmhdeancaa.RunMemoryEnds
set_option linter.unusedVariables false
set_option maxRecDepth 100000
theorem plain (u : Nat → Int) (h : KindOk u 0 [some .i64, some .i64]) : Law ⟨u, fnF⟩ lawR := law_of_facts (fs := []) trivial (by decide)
end Go.Proofs.Ytjgobpmhdeancaa.PlainMemoryEnds
