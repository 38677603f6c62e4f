/- The law TablePutsC in numbers alone. No condition. -/
import Derived.Test.YtjgobpmhdeancaaClTablePutsC0
import Derived.KernelRfl
namespace Go.Proofs.Ytjgobpmhdeancaa.PlainTablePutsC
open Go Go.Sx Go.Proofs.Ytjgobpmhdeancaa.RunTablePutsC Go.Proofs.Ytjgobpmhdeancaa.ClTablePutsC
set_option maxRecDepth 100000
set_option linter.unusedVariables false
def cs : List (List E) := [c0, c1, c2, c3, c4, c5, c6, c7, c8, c9, c10, c11, c12, c13, c14, c15, c16, c17, c18, c19, c20, c21, c22, c23, c24, c25, c26, c27, c28, c29, c30, c31, c32, c33, c34, c35, c36, c37]
def ns : List Nat := [0, 0, 0, 0, 1, 1, 1, 2, 3, 0, 4, 5, 4, 5, 4, 0, 0, 0, 0, 6, 3, 3, 3, 3, 0, 7, 5, 5, 5, 5, 0, 0, 0, 0, 8, 9, 10, 11, 12, 0, 13, 5, 5, 5, 5, 2, 2, 2, 14, 2, 2, 2, 2, 15, 0, 4, 5, 4, 5, 4, 14, 14, 14, 14, 16, 15, 15, 15, 15, 0, 17, 5, 5, 5, 5, 14, 14, 14, 14, 18, 19, 20, 21, 22, 0, 23, 5, 5, 5, 5, 2, 2, 2, 24, 2, 2, 2, 2, 25, 0, 4, 5, 4, 5, 4, 24, 24, 24, 24, 26, 25, 25, 25, 25, 0, 27, 5, 5, 5, 5, 24, 24, 24, 24, 28, 29, 30, 31, 32, 0, 33, 5, 5, 5, 5, 2, 2, 2, 34, 0, 4, 34, 34, 0, 35, 2, 2, 2, 36, 0, 4, 36, 36, 0, 35, 2, 2, 2, 37, 0, 4, 37, 37, 0, 35]
theorem clauses (ρ : Env) : ClausesOk ρ cs := ⟨c0_no ρ, c1_no ρ, c2_no ρ, c3_no ρ, c4_no ρ, c5_no ρ, c6_no ρ, c7_no ρ, c8_no ρ, c9_no ρ, c10_no ρ, c11_no ρ, c12_no ρ, c13_no ρ, c14_no ρ, c15_no ρ, c16_no ρ, c17_no ρ, c18_no ρ, c19_no ρ, c20_no ρ, c21_no ρ, c22_no ρ, c23_no ρ, c24_no ρ, c25_no ρ, c26_no ρ, c27_no ρ, c28_no ρ, c29_no ρ, c30_no ρ, c31_no ρ, c32_no ρ, c33_no ρ, c34_no ρ, c35_no ρ, c36_no ρ, c37_no ρ, trivial⟩
theorem fine : hintsOk cs ns lawR = true := by kernel_rfl
theorem plain (u : Nat → Int) (h : KindOk u 0 [some .i64, some .i64, some .i64]) : Law ⟨u, fnF⟩ lawR := law_of_hints (clauses _) fine
end Go.Proofs.Ytjgobpmhdeancaa.PlainTablePutsC
