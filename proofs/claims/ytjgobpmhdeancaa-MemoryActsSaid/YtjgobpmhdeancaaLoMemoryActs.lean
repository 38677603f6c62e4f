/- The loop of the law MemoryActs, told: it ends, and the two memories hold the same bytes. No condition. -/
import Derived.Test.YtjgobpmhdeancaaPlainMemoryActs
import Derived.Test.YtjgobpmhdeancaaActs0
import Derived.Test.YtjgobpmhdeancaaActs1
import Derived.Test.YtjgobpmhdeancaaActs2
import Derived.Test.YtjgobpmhdeancaaActs3
import Derived.Test.YtjgobpmhdeancaaActs4
import Derived.Test.YtjgobpmhdeancaaActs5
import Derived.Test.YtjgobpmhdeancaaActs6
namespace Go.Proofs.Ytjgobpmhdeancaa.GsMemoryActs
open Go Go.Sx Go.Proofs.Ytjgobpmhdeancaa Go.Proofs.Ytjgobpmhdeancaa.PlainMemoryActs
theorem all : ∀ c ∈ acts, actsC.caseOk Try.prog noOracle noLoops (bodies fns) 4000 cl c = true := fun c hc => by
  obtain ⟨i, hi, rfl⟩ := List.getElem_of_mem hc
  have h : i = 0 ∨ i = 1 ∨ i = 2 ∨ i = 3 ∨ i = 4 ∨ i = 5 ∨ i = 6 := by have : acts.length = 7 := rfl; omega
  rcases h with rfl | rfl | rfl | rfl | rfl | rfl | rfl
  · exact Acts0.fine
  · exact Acts1.fine
  · exact Acts2.fine
  · exact Acts3.fine
  · exact Acts4.fine
  · exact Acts5.fine
  · exact Acts6.fine
theorem loopedMemoryActs_ok (w : World) {fn : Nat → Int → Int → Int → Int} (h : CodeOk fn) : LoopsOk Try.prog ⟨w, fn⟩ (bodies fns) loopedMemoryActs :=
  closed_ok h (noOracle_ok _ _) (bodies_ok fnsKnown) (noLoops_ok _ _ _) (noLoops_ok _ _ _) (clOk fn) (Go.Proofs.Ytjgobpmhdeancaa.PlainMemoryActs.cover fn) all
end Go.Proofs.Ytjgobpmhdeancaa.GsMemoryActs
