/- The law MemoryPuts in numbers alone. No condition. -/
import Derived.Test.YtjgobpmhdeancaaRunMemoryPuts
import Derived.Test.YtjgobpmhdeancaaPlFact
namespace Go.Proofs.Ytjgobpmhdeancaa.PlainMemoryPuts
open Go Go.Sx Go.Proofs.Ytjgobpmhdeancaa.RunMemoryPuts
set_option maxRecDepth 100000
theorem plain (ρ : Env) : Law ρ lawR := law_of_facts (fs := []) trivial (by decide)
end Go.Proofs.Ytjgobpmhdeancaa.PlainMemoryPuts
