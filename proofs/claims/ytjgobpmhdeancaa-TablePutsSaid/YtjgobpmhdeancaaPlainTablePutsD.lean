/- The law TablePutsD in numbers alone. No condition. -/
import Derived.Test.YtjgobpmhdeancaaClTablePutsD0
import Derived.KernelRfl
namespace Go.Proofs.Ytjgobpmhdeancaa.PlainTablePutsD
open Go Go.Sx Go.Proofs.Ytjgobpmhdeancaa.RunTablePutsD Go.Proofs.Ytjgobpmhdeancaa.ClTablePutsD
set_option maxRecDepth 100000
set_option linter.unusedVariables false
def cs : List (List E) := [c0, c1, c2, c3, c4, c5, c6, c7, c8, c9, c10, c11, c12, c13, c14, c15, c16, c17, c18, c19, c20, c21, c22, c23, c24, c25, c26]
def ns : List Nat := [0, 0, 0, 0, 1, 1, 1, 2, 3, 0, 4, 5, 4, 5, 4, 0, 0, 0, 0, 6, 3, 3, 3, 3, 0, 7, 5, 5, 5, 5, 0, 0, 0, 0, 8, 9, 10, 11, 12, 0, 13, 5, 5, 5, 5, 2, 2, 2, 14, 2, 2, 2, 2, 15, 0, 4, 5, 4, 5, 4, 14, 14, 14, 14, 16, 15, 15, 15, 15, 0, 17, 5, 5, 5, 5, 14, 14, 14, 14, 18, 19, 20, 21, 22, 0, 23, 5, 5, 5, 5, 2, 2, 2, 24, 0, 4, 24, 24, 0, 25, 2, 2, 2, 26, 0, 4, 26, 26, 0, 25]
theorem clauses (ρ : Env) : ClausesOk ρ cs := ⟨c0_no ρ, c1_no ρ, c2_no ρ, c3_no ρ, c4_no ρ, c5_no ρ, c6_no ρ, c7_no ρ, c8_no ρ, c9_no ρ, c10_no ρ, c11_no ρ, c12_no ρ, c13_no ρ, c14_no ρ, c15_no ρ, c16_no ρ, c17_no ρ, c18_no ρ, c19_no ρ, c20_no ρ, c21_no ρ, c22_no ρ, c23_no ρ, c24_no ρ, c25_no ρ, c26_no ρ, trivial⟩
theorem fine : hintsOk cs ns lawR = true := by kernel_rfl
theorem plain (u : Nat → Int) (h : KindOk u 0 [some .i64, some .i64, some .i64]) : Law ⟨u, fnF⟩ lawR := law_of_hints (clauses _) fine
end Go.Proofs.Ytjgobpmhdeancaa.PlainTablePutsD
