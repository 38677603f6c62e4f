/- The law TableForms in numbers alone. No condition. -/
import Derived.Test.YtjgobpmhdeancaaRunTableForms
import Derived.Test.YtjgobpmhdeancaaPlClause
namespace Go.Proofs.Ytjgobpmhdeancaa.PlainTableForms
open Go Go.Sx Go.Proofs.Ytjgobpmhdeancaa.RunTableForms
set_option linter.unusedVariables false
set_option linter.unusedSimpArgs false
set_option maxRecDepth 100000
def cs : List (List E) := [[q0, q1, q2], [nt q16, q1, q2], [q17, q3, q4], [nt q19, q3, q4], [q21, q1, q2], [nt q23, q1, q2],
  [q39, q40, q41], [nt q48, q40, q41], [q49, q42, q43], [nt q51, q42, q43], [q53, q40, q41], [nt q55, q40, q41], [nt q31, q32], [nt q34, q38]]
theorem clauses (ρ : Env) : ClausesOk ρ cs := by
  refine ⟨?_, ?_, ?_, ?_, ?_, ?_, ?_, ?_, ?_, ?_, ?_, ?_, ?_, ?_, trivial⟩
  all_goals first
    | (simp only [chain, nt, q0, q1, q2, q3, q4, q16, q17, q19, q21, q23, q39, q40, q41, q42, q43, q48, q49, q51, q53, q55, E.prop, den_l, den_v, den_add, den_sub, den_emod, den_if]
       intro h1 h2 h3; repeat' split at h3
       all_goals omega)
    | (simp only [chain, nt, q31, q32, q34, q38, E.prop, E.den, Bi.den, Un.den]; intro h1 h2; revert h1 h2; simp only [b2i]; intro h1; by_cases hx : ρ.v 1 ≤ 4294967295 <;> simp [hx] <;> omega)
theorem plain (u : Nat → Int) (h : KindOk u 0 [some .i64, some .i64, some .i64, some .i64]) : Law ⟨u, fnF⟩ lawR := law_of_clauses (clauses _) (by decide)
end Go.Proofs.Ytjgobpmhdeancaa.PlainTableForms
