/- The loops of the law TableActs, told: they end, and the two tables hold the same numbers. No condition. -/
import Derived.Test.YtjgobpmhdeancaaPlainTableActs
import Derived.Test.YtjgobpmhdeancaaActs9A
import Derived.Test.YtjgobpmhdeancaaActs9B
import Derived.Test.YtjgobpmhdeancaaActs9C
import Derived.Test.YtjgobpmhdeancaaActs9D
import Derived.Test.YtjgobpmhdeancaaActs9E
import Derived.Test.YtjgobpmhdeancaaActs9F
import Derived.Test.YtjgobpmhdeancaaActs9G
import Derived.Test.YtjgobpmhdeancaaActs9H
namespace Go.Proofs.Ytjgobpmhdeancaa.GsTableActs
open Go Go.Sx Go.Proofs.Ytjgobpmhdeancaa Go.Proofs.Ytjgobpmhdeancaa.PlainTableActs
set_option maxRecDepth 100000 in
theorem allT : ∀ c ∈ cs, actsT.caseOk Try.prog noOracle inner (bodies fns) 4000 clT c = true := fun c hc => by
  obtain ⟨i, hi, rfl⟩ := List.getElem_of_mem hc
  have h : i = 0 ∨ i = 1 ∨ i = 2 ∨ i = 3 ∨ i = 4 ∨ i = 5 ∨ i = 6 ∨ i = 7 ∨ i = 8 ∨ i = 9 ∨ i = 10 ∨ i = 11 ∨ i = 12 ∨ i = 13 ∨ i = 14 ∨ i = 15 ∨ i = 16 ∨ i = 17 ∨ i = 18 ∨ i = 19 := by have : cs.length = 20 := rfl; omega
  rcases h with rfl | rfl | rfl | rfl | rfl | rfl | rfl | rfl | rfl | rfl | rfl | rfl | rfl | rfl | rfl | rfl | rfl | rfl | rfl | rfl
  · exact Acts9T0.fine
  · exact Acts9T1.fine
  · exact Acts9T2.fine
  · exact Acts9T3.fine
  · exact Acts9T4.fine
  · exact Acts9T5.fine
  · exact Acts9T6.fine
  · exact Acts9T7.fine
  · exact Acts9T8.fine
  · exact Acts9T9.fine
  · exact Acts9T10.fine
  · exact Acts9T11.fine
  · exact Acts9T12.fine
  · exact Acts9T13.fine
  · exact Acts9T14.fine
  · exact Acts9T15.fine
  · exact Acts9T16.fine
  · exact Acts9T17.fine
  · exact Acts9T18.fine
  · exact Acts9T19.fine
set_option maxRecDepth 100000 in
theorem allZ : ∀ c ∈ csZ, actsZ.caseOk Try.prog noOracle inner (bodies fns) 4000 clZ c = true := fun c hc => by
  obtain ⟨i, hi, rfl⟩ := List.getElem_of_mem hc
  have h : i = 0 ∨ i = 1 ∨ i = 2 ∨ i = 3 ∨ i = 4 ∨ i = 5 ∨ i = 6 ∨ i = 7 ∨ i = 8 ∨ i = 9 ∨ i = 10 ∨ i = 11 ∨ i = 12 ∨ i = 13 := by have : csZ.length = 14 := rfl; omega
  rcases h with rfl | rfl | rfl | rfl | rfl | rfl | rfl | rfl | rfl | rfl | rfl | rfl | rfl | rfl
  · exact Acts9Z0.fine
  · exact Acts9Z1.fine
  · exact Acts9Z2.fine
  · exact Acts9Z3.fine
  · exact Acts9Z4.fine
  · exact Acts9Z5.fine
  · exact Acts9Z6.fine
  · exact Acts9Z7.fine
  · exact Acts9Z8.fine
  · exact Acts9Z9.fine
  · exact Acts9Z10.fine
  · exact Acts9Z11.fine
  · exact Acts9Z12.fine
  · exact Acts9Z13.fine
theorem inner_ok (w : World) {fn : Nat → Int → Int → Int → Int} (h : CodeOk fn) (k : Keeps fn) : LoopsOk Try.prog ⟨w, fn⟩ (bodies fns) inner :=
  gOracle_ok h (noOracle_ok _ _) (bodies_ok fnsKnown) (hOracle_ok (noOracle_ok _ _) (bodies_ok fnsKnown) (noLoops_ok _ _ _) hs9) gs (lemsOk k)
theorem loopedTableActs_ok (w : World) {fn : Nat → Int → Int → Int → Int} (h : CodeOk fn) (k : Keeps fn) : LoopsOk Try.prog ⟨w, fn⟩ (bodies fns) loopedTableActs :=
  closed_ok h (noOracle_ok _ _) (bodies_ok fnsKnown) (inner_ok w h k)
    (closed_ok h (noOracle_ok _ _) (bodies_ok fnsKnown) (inner_ok w h k)
      (pOracle_ok h (noOracle_ok _ _) (bodies_ok fnsKnown) (inner_ok w h k) (inner_ok w h k) (fun q hq => by cases hq))
      (fun q hq => by exact rangeOk k q hq) (clOkZ k) (coverZ fn) allZ)
    (fun q hq => by exact rangeOk k q hq) (clOkT k) (coverT fn) allT
end Go.Proofs.Ytjgobpmhdeancaa.GsTableActs
