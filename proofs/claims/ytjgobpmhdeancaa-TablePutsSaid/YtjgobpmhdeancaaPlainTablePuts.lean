/- The law TablePuts, its parts put together. No condition. -/
import Derived.Test.YtjgobpmhdeancaaPlainTablePutsA
import Derived.Test.YtjgobpmhdeancaaPlainTablePutsB
import Derived.Test.YtjgobpmhdeancaaPlainTablePutsC
import Derived.Test.YtjgobpmhdeancaaPlainTablePutsD
import Derived.Test.YtjgobpmhdeancaaPlainTablePutsE
import Derived.Test.YtjgobpmhdeancaaPlainTablePutsF
namespace Go.Proofs.Ytjgobpmhdeancaa.RunTablePuts
end Go.Proofs.Ytjgobpmhdeancaa.RunTablePuts
namespace Go.Proofs.Ytjgobpmhdeancaa.PlainTablePuts
open Go Go.Sx Go.Proofs.Ytjgobpmhdeancaa
theorem law (w : World) (v : Nat → Int) (hv : KindOk v 0 [some .i64, some .i64, some .i64]) : Calls Try.prog 10 (kindVals v 0 [some .i64, some .i64, some .i64]).toArray w fun e w' => e = .returned (.bool true) ∧ RowKit.Grown w w' := by
  have pre : ∀ lo hi : Int, lo ≤ v 2 % 16 → v 2 % 16 ≤ hi → pcOk (⟨v, fnF⟩ : Env) [.bin .le (.lit lo) (.bin .emod (.var 2) (.lit 16)), .bin .le (.bin .emod (.var 2) (.lit 16)) (.lit hi)] := fun lo hi h1 h2 e he => by
    simp only [List.mem_cons, List.not_mem_nil, or_false] at he
    rcases he with rfl | rfl
    · exact (E.prop_iff _ _).1 h1
    · exact (E.prop_iff _ _).1 h2
  by_cases hA : v 2 % 16 ≤ 3
  · have loA : 0 ≤ v 2 % 16 := by omega
    exact law_calls_pre fnF (noOracle_ok _ _) (looped_ok _) fnsKnown (noTabs w) RunTablePutsA.lawRan rfl v hv (pre 0 3 loA hA) PlainTablePutsA.plain
  by_cases hB : v 2 % 16 ≤ 6
  · have loB : 4 ≤ v 2 % 16 := by omega
    exact law_calls_pre fnF (noOracle_ok _ _) (looped_ok _) fnsKnown (noTabs w) RunTablePutsB.lawRan rfl v hv (pre 4 6 loB hB) PlainTablePutsB.plain
  by_cases hC : v 2 % 16 ≤ 9
  · have loC : 7 ≤ v 2 % 16 := by omega
    exact law_calls_pre fnF (noOracle_ok _ _) (looped_ok _) fnsKnown (noTabs w) RunTablePutsC.lawRan rfl v hv (pre 7 9 loC hC) PlainTablePutsC.plain
  by_cases hD : v 2 % 16 ≤ 11
  · have loD : 10 ≤ v 2 % 16 := by omega
    exact law_calls_pre fnF (noOracle_ok _ _) (looped_ok _) fnsKnown (noTabs w) RunTablePutsD.lawRan rfl v hv (pre 10 11 loD hD) PlainTablePutsD.plain
  by_cases hE : v 2 % 16 ≤ 13
  · have loE : 12 ≤ v 2 % 16 := by omega
    exact law_calls_pre fnF (noOracle_ok _ _) (looped_ok _) fnsKnown (noTabs w) RunTablePutsE.lawRan rfl v hv (pre 12 13 loE hE) PlainTablePutsE.plain
  have loF : 14 ≤ v 2 % 16 := by omega
  exact law_calls_pre fnF (noOracle_ok _ _) (looped_ok _) fnsKnown (noTabs w) RunTablePutsF.lawRan rfl v hv (pre 14 15 loF (by omega)) PlainTablePutsF.plain
end Go.Proofs.Ytjgobpmhdeancaa.PlainTablePuts
