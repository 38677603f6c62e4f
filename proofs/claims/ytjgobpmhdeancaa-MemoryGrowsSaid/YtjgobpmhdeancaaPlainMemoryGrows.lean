/- The law MemoryGrows in numbers alone. No condition. -/
import Derived.Test.YtjgobpmhdeancaaRunMemoryGrows
import Derived.Test.YtjgobpmhdeancaaPlClause
namespace Go.Proofs.Ytjgobpmhdeancaa.PlainMemoryGrows
open Go Go.Sx Go.Proofs.Ytjgobpmhdeancaa.RunMemoryGrows
set_option maxRecDepth 100000
variable (ρ : Env)
theorem c0 (x y : E) : chain ρ False [.bin .lt (.bin .emod x (.lit 16)) (.bin .emod y (.bin .add (.bin .emod x (.lit 16)) (.lit 1)))] := by
  simp only [chain, E.prop, E.den, Bi.den]
  intro h
  have h0 := Int.emod_nonneg (x.den ρ) (show (16 : Int) ≠ 0 by decide)
  have := Int.emod_lt_of_pos (y.den ρ) (show (0 : Int) < x.den ρ % 16 + 1 by omega)
  omega
theorem c1 (x : E) : chain ρ False [nt (.bin .eq (.bin .ediv (.bin .mul x (.lit 65536)) (.lit 65536)) x)] := by
  simp only [chain, nt, E.prop, E.den, Bi.den]
  intro h
  exact h (by omega)
theorem c2 (x B k : E) : chain ρ False [.bin .le k (.bin .sub B (.bin .ediv (.bin .mul x (.lit 65536)) (.lit 65536))), .bin .lt (.bin .sub B x) k] := by
  simp only [chain, E.prop, E.den, Bi.den]
  intro h1 h2
  omega
theorem c3 (x B k : E) : chain ρ False [.bin .lt (.bin .sub B (.bin .ediv (.bin .mul x (.lit 65536)) (.lit 65536))) k, .bin .le k (.bin .sub B x)] := by
  simp only [chain, E.prop, E.den, Bi.den]
  intro h1 h2
  omega
theorem c4 (x k : E) : chain ρ False [nt (.bin .eq (.bin .ediv (.bin .add (.bin .mul x (.lit 65536)) (.bin .mul k (.lit 65536))) (.lit 65536)) (.bin .add x k))] := by
  simp only [chain, nt, E.prop, E.den, Bi.den]
  intro h
  exact h (by omega)
theorem c5 (x a : E) : chain ρ False [nt (.bin .eq x (.bin .add (.bin .mul a (.lit 65536)) (.lit (-1)))), nt (.bin .eq (.ite (.bin .and (.bin .le (.bin .sub (.bin .mul a (.lit 65536)) (.lit 1)) x) (.bin .lt x (.bin .mul a (.lit 65536)))) (.lit 7) (.lit 0)) (.lit 0))] := by
  simp only [chain, nt, E.prop, E.den, Bi.den, b2i_ne, bne_iff_ne, Bool.and_eq_true]
  intro h1 h2
  apply h1
  rw [if_neg]
  rintro ⟨h3, h4⟩
  have h3 := of_decide_eq_true h3
  have h4 := of_decide_eq_true h4
  omega
def cs : List (List E) := [[q0], [nt q3], [q14, q5], [q4, q15], [nt q16], [nt q17, nt q18], [q28, q26], [q25, q29]]
theorem clauses : ClausesOk ρ cs := ⟨c0 ρ _ _, c1 ρ _, c2 ρ _ _ _, c3 ρ _ _ _, c4 ρ _ _, c5 ρ _ _, c2 ρ _ _ _, c3 ρ _ _ _, trivial⟩
theorem plain : Law ρ lawR := law_of_clauses (clauses _) (by decide)
end Go.Proofs.Ytjgobpmhdeancaa.PlainMemoryGrows
