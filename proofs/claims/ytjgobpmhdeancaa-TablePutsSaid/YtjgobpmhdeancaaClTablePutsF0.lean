/- Conditions that cannot hold together (law TablePutsF). No condition. -/
import Derived.Test.YtjgobpmhdeancaaRunTablePutsF
import Derived.Test.YtjgobpmhdeancaaPlClause
namespace Go.Proofs.Ytjgobpmhdeancaa.ClTablePutsF
open Go Go.Sx Go.Proofs.Ytjgobpmhdeancaa.RunTablePutsF
set_option linter.unusedVariables false
set_option linter.unusedSimpArgs false
set_option maxRecDepth 100000
set_option maxHeartbeats 4000000
def c0 : List E := [q3, q4]
theorem c0_no (ρ : Env) : chain ρ False c0 := by
  have w0 := u8_range (ρ.v 0)
  simp only [c0, chain, nt, q3, q4, E.prop, den_nn0, den_nn1, den_l, den_v, den_add, den_sub, den_mul, den_emod, den_u8, den_le, den_lt, den_if]
  intro h0 h1
  all_goals first
    | omega
    | (repeat' (first | split at h0 | split at h1)
       all_goals omega)
def c1 : List E := [q1, q6, q7]
theorem c1_no (ρ : Env) : chain ρ False c1 := by
  have w0 := u8_range (ρ.v 0)
  have w1 := u8_range (ρ.v 1)
  simp only [c1, chain, nt, q1, q6, q7, E.prop, den_nn0, den_nn1, den_l, den_v, den_add, den_sub, den_mul, den_emod, den_u8, den_le, den_lt, den_if]
  intro h0 h1 h2
  all_goals first
    | omega
    | (repeat' (first | split at h0 | split at h1 | split at h2)
       all_goals omega)
def c2 : List E := [q2, q7]
theorem c2_no (ρ : Env) : chain ρ False c2 := by
  have w0 := u8_range (ρ.v 0)
  have w1 := u8_range (ρ.v 1)
  simp only [c2, chain, nt, q2, q7, E.prop, den_nn0, den_nn1, den_l, den_v, den_add, den_sub, den_mul, den_emod, den_u8, den_le, den_lt, den_if]
  intro h0 h1
  all_goals first
    | omega
    | (repeat' (first | split at h0 | split at h1)
       all_goals omega)
def c3 : List E := [nt q37, q24, q26, q4, q5]
theorem c3_no (ρ : Env) : chain ρ False c3 := by
  have w0 := u8_range (ρ.v 0)
  simp only [c3, chain, nt, q24, q26, q37, q4, q5, E.prop, den_nn0, den_nn1, den_l, den_v, den_add, den_sub, den_mul, den_emod, den_u8, den_le, den_lt, den_if]
  intro h0 h1 h2 h3 h4
  all_goals first
    | omega
    | (repeat' (first | split at h0 | split at h1 | split at h2 | split at h3 | split at h4)
       all_goals omega)
def c4 : List E := [nt q39, q7]
theorem c4_no (ρ : Env) : chain ρ False c4 := by
  have w0 := u8_range (ρ.v 0)
  have w1 := u8_range (ρ.v 1)
  simp only [c4, chain, nt, q39, q7, E.prop, den_nn0, den_nn1, den_l, den_v, den_add, den_sub, den_mul, den_emod, den_u8, den_le, den_lt, den_if]
  intro h0 h1
  all_goals first
    | omega
    | (repeat' (first | split at h0 | split at h1)
       all_goals omega)
def c5 : List E := [q43]
theorem c5_no (ρ : Env) : chain ρ False c5 := by
  have w0 := u8_range (ρ.v 0)
  simp only [c5, chain, nt, q43, E.prop, den_nn0, den_nn1, den_l, den_v, den_add, den_sub, den_mul, den_emod, den_u8, den_le, den_lt, den_if]
  intro h0
  all_goals first
    | omega
    | (repeat' (first | split at h0)
       all_goals omega)
def c6 : List E := [q2, q44, q9]
theorem c6_no (ρ : Env) : chain ρ False c6 := by
  have w0 := u8_range (ρ.v 0)
  have w1 := u8_range (ρ.v 1)
  simp only [c6, chain, nt, q2, q44, q9, E.prop, den_nn0, den_nn1, den_l, den_v, den_add, den_sub, den_mul, den_emod, den_u8, den_le, den_lt, den_if]
  intro h0 h1 h2
  all_goals first
    | omega
    | (repeat' (first | split at h0 | split at h1 | split at h2)
       all_goals omega)
def c7 : List E := [nt q39, q44, q9]
theorem c7_no (ρ : Env) : chain ρ False c7 := by
  have w0 := u8_range (ρ.v 0)
  have w1 := u8_range (ρ.v 1)
  simp only [c7, chain, nt, q39, q44, q9, E.prop, den_nn0, den_nn1, den_l, den_v, den_add, den_sub, den_mul, den_emod, den_u8, den_le, den_lt, den_if]
  intro h0 h1 h2
  all_goals first
    | omega
    | (repeat' (first | split at h0 | split at h1 | split at h2)
       all_goals omega)
def c8 : List E := [q0, q1, q24, q26, q47]
theorem c8_no (ρ : Env) : chain ρ False c8 := by
  have w0 := u8_range (ρ.v 0)
  have w1 := u8_range (ρ.v 1)
  simp only [c8, chain, nt, q0, q1, q24, q26, q47, E.prop, den_nn0, den_nn1, den_l, den_v, den_add, den_sub, den_mul, den_emod, den_u8, den_le, den_lt, den_if]
  intro h0 h1 h2 h3 h4
  all_goals first
    | omega
    | (repeat' (first | split at h0 | split at h1 | split at h2 | split at h3 | split at h4)
       all_goals omega)
def c9 : List E := [nt q48, q0, q1, q24, q26]
theorem c9_no (ρ : Env) : chain ρ False c9 := by
  have w0 := u8_range (ρ.v 0)
  have w1 := u8_range (ρ.v 1)
  simp only [c9, chain, nt, q0, q1, q24, q26, q48, E.prop, den_nn0, den_nn1, den_l, den_v, den_add, den_sub, den_mul, den_emod, den_u8, den_le, den_lt, den_if]
  intro h0 h1 h2 h3 h4
  all_goals first
    | omega
    | (repeat' (first | split at h0 | split at h1 | split at h2 | split at h3 | split at h4)
       all_goals omega)
def c10 : List E := [nt q47, q24, q26, q34, q4, q9]
theorem c10_no (ρ : Env) : chain ρ False c10 := by
  have w0 := u8_range (ρ.v 0)
  have w1 := u8_range (ρ.v 1)
  simp only [c10, chain, nt, q24, q26, q34, q4, q47, q9, E.prop, den_nn0, den_nn1, den_l, den_v, den_add, den_sub, den_mul, den_emod, den_u8, den_le, den_lt, den_if]
  intro h0 h1 h2 h3 h4 h5
  all_goals first
    | omega
    | (repeat' (first | split at h0 | split at h1 | split at h2 | split at h3 | split at h4 | split at h5)
       all_goals omega)
def c11 : List E := [nt q47, q24, q26, q35, q4, q5]
theorem c11_no (ρ : Env) : chain ρ False c11 := by
  have w0 := u8_range (ρ.v 0)
  have w1 := u8_range (ρ.v 1)
  simp only [c11, chain, nt, q24, q26, q35, q4, q47, q5, E.prop, den_nn0, den_nn1, den_l, den_v, den_add, den_sub, den_mul, den_emod, den_u8, den_le, den_lt, den_if]
  intro h0 h1 h2 h3 h4 h5
  all_goals first
    | omega
    | (repeat' (first | split at h0 | split at h1 | split at h2 | split at h3 | split at h4 | split at h5)
       all_goals omega)
def c12 : List E := [q36, q46]
theorem c12_no (ρ : Env) : chain ρ False c12 := by
  have w0 := u8_range (ρ.v 0)
  have w1 := u8_range (ρ.v 1)
  simp only [c12, chain, nt, q36, q46, E.prop, den_nn0, den_nn1, den_l, den_v, den_add, den_sub, den_mul, den_emod, den_u8, den_le, den_lt, den_if]
  intro h0 h1
  all_goals first
    | omega
    | (repeat' (first | split at h0 | split at h1)
       all_goals omega)
def c13 : List E := [nt q49, q46]
theorem c13_no (ρ : Env) : chain ρ False c13 := by
  have w0 := u8_range (ρ.v 0)
  have w1 := u8_range (ρ.v 1)
  simp only [c13, chain, nt, q46, q49, E.prop, den_nn0, den_nn1, den_l, den_v, den_add, den_sub, den_mul, den_emod, den_u8, den_le, den_lt, den_if]
  intro h0 h1
  all_goals first
    | omega
    | (repeat' (first | split at h0 | split at h1)
       all_goals omega)
def c14 : List E := [q53, q54]
theorem c14_no (ρ : Env) : chain ρ False c14 := by
  have w0 := u8_range (ρ.v 0)
  simp only [c14, chain, nt, q53, q54, E.prop, den_nn0, den_nn1, den_l, den_v, den_add, den_sub, den_mul, den_emod, den_u8, den_le, den_lt, den_if]
  intro h0 h1
  all_goals first
    | omega
    | (repeat' (first | split at h0 | split at h1)
       all_goals omega)
def c15 : List E := [nt q60, q24, q26, q54, q55]
theorem c15_no (ρ : Env) : chain ρ False c15 := by
  have w0 := u8_range (ρ.v 0)
  simp only [c15, chain, nt, q24, q26, q54, q55, q60, E.prop, den_nn0, den_nn1, den_l, den_v, den_add, den_sub, den_mul, den_emod, den_u8, den_le, den_lt, den_if]
  intro h0 h1 h2 h3 h4
  all_goals first
    | omega
    | (repeat' (first | split at h0 | split at h1 | split at h2 | split at h3 | split at h4)
       all_goals omega)
def c16 : List E := [q2, q32, q63]
theorem c16_no (ρ : Env) : chain ρ False c16 := by
  have w0 := u8_range (ρ.v 0)
  have w1 := u8_range (ρ.v 1)
  simp only [c16, chain, nt, q2, q32, q63, E.prop, den_nn0, den_nn1, den_l, den_v, den_add, den_sub, den_mul, den_emod, den_u8, den_le, den_lt, den_if]
  intro h0 h1 h2
  all_goals first
    | omega
    | (repeat' (first | split at h0 | split at h1 | split at h2)
       all_goals omega)
def c17 : List E := [nt q39, q32, q63]
theorem c17_no (ρ : Env) : chain ρ False c17 := by
  have w0 := u8_range (ρ.v 0)
  have w1 := u8_range (ρ.v 1)
  simp only [c17, chain, nt, q32, q39, q63, E.prop, den_nn0, den_nn1, den_l, den_v, den_add, den_sub, den_mul, den_emod, den_u8, den_le, den_lt, den_if]
  intro h0 h1 h2
  all_goals first
    | omega
    | (repeat' (first | split at h0 | split at h1 | split at h2)
       all_goals omega)
def c18 : List E := [q24, q26, q51, q52, q57, q65]
theorem c18_no (ρ : Env) : chain ρ False c18 := by
  have w0 := u8_range (ρ.v 0)
  have w1 := u8_range (ρ.v 1)
  simp only [c18, chain, nt, q24, q26, q51, q52, q57, q65, E.prop, den_nn0, den_nn1, den_l, den_v, den_add, den_sub, den_mul, den_emod, den_u8, den_le, den_lt, den_if]
  intro h0 h1 h2 h3 h4 h5
  all_goals first
    | omega
    | (repeat' (first | split at h0 | split at h1 | split at h2 | split at h3 | split at h4 | split at h5)
       all_goals omega)
def c19 : List E := [nt q66, q24, q26, q51, q52, q57]
theorem c19_no (ρ : Env) : chain ρ False c19 := by
  have w0 := u8_range (ρ.v 0)
  have w1 := u8_range (ρ.v 1)
  simp only [c19, chain, nt, q24, q26, q51, q52, q57, q66, E.prop, den_nn0, den_nn1, den_l, den_v, den_add, den_sub, den_mul, den_emod, den_u8, den_le, den_lt, den_if]
  intro h0 h1 h2 h3 h4 h5
  all_goals first
    | omega
    | (repeat' (first | split at h0 | split at h1 | split at h2 | split at h3 | split at h4 | split at h5)
       all_goals omega)
def c20 : List E := [nt q65, q24, q26, q32, q54, q58]
theorem c20_no (ρ : Env) : chain ρ False c20 := by
  have w0 := u8_range (ρ.v 0)
  have w1 := u8_range (ρ.v 1)
  simp only [c20, chain, nt, q24, q26, q32, q54, q58, q65, E.prop, den_nn0, den_nn1, den_l, den_v, den_add, den_sub, den_mul, den_emod, den_u8, den_le, den_lt, den_if]
  intro h0 h1 h2 h3 h4 h5
  all_goals first
    | omega
    | (repeat' (first | split at h0 | split at h1 | split at h2 | split at h3 | split at h4 | split at h5)
       all_goals omega)
def c21 : List E := [nt q65, q24, q26, q54, q55, q59]
theorem c21_no (ρ : Env) : chain ρ False c21 := by
  have w0 := u8_range (ρ.v 0)
  have w1 := u8_range (ρ.v 1)
  simp only [c21, chain, nt, q24, q26, q54, q55, q59, q65, E.prop, den_nn0, den_nn1, den_l, den_v, den_add, den_sub, den_mul, den_emod, den_u8, den_le, den_lt, den_if]
  intro h0 h1 h2 h3 h4 h5
  all_goals first
    | omega
    | (repeat' (first | split at h0 | split at h1 | split at h2 | split at h3 | split at h4 | split at h5)
       all_goals omega)
def c22 : List E := [q36, q57, q64]
theorem c22_no (ρ : Env) : chain ρ False c22 := by
  have w0 := u8_range (ρ.v 0)
  have w1 := u8_range (ρ.v 1)
  simp only [c22, chain, nt, q36, q57, q64, E.prop, den_nn0, den_nn1, den_l, den_v, den_add, den_sub, den_mul, den_emod, den_u8, den_le, den_lt, den_if]
  intro h0 h1 h2
  all_goals first
    | omega
    | (repeat' (first | split at h0 | split at h1 | split at h2)
       all_goals omega)
def c23 : List E := [nt q49, q57, q64]
theorem c23_no (ρ : Env) : chain ρ False c23 := by
  have w0 := u8_range (ρ.v 0)
  have w1 := u8_range (ρ.v 1)
  simp only [c23, chain, nt, q49, q57, q64, E.prop, den_nn0, den_nn1, den_l, den_v, den_add, den_sub, den_mul, den_emod, den_u8, den_le, den_lt, den_if]
  intro h0 h1 h2
  all_goals first
    | omega
    | (repeat' (first | split at h0 | split at h1 | split at h2)
       all_goals omega)
def c24 : List E := [q54, q55, q82]
theorem c24_no (ρ : Env) : chain ρ False c24 := by
  have w0 := u8_range (ρ.v 0)
  simp only [c24, chain, nt, q54, q55, q82, E.prop, den_nn0, den_nn1, den_l, den_v, den_add, den_sub, den_mul, den_emod, den_u8, den_le, den_lt, den_if]
  intro h0 h1 h2
  all_goals first
    | omega
    | (repeat' (first | split at h0 | split at h1 | split at h2)
       all_goals omega)
def c25 : List E := [nt q39, q32, q82]
theorem c25_no (ρ : Env) : chain ρ False c25 := by
  have w0 := u8_range (ρ.v 0)
  have w1 := u8_range (ρ.v 1)
  simp only [c25, chain, nt, q32, q39, q82, E.prop, den_nn0, den_nn1, den_l, den_v, den_add, den_sub, den_mul, den_emod, den_u8, den_le, den_lt, den_if]
  intro h0 h1 h2
  all_goals first
    | omega
    | (repeat' (first | split at h0 | split at h1 | split at h2)
       all_goals omega)
def c26 : List E := [q82, q85, q86]
theorem c26_no (ρ : Env) : chain ρ False c26 := by
  have w0 := u8_range (ρ.v 0)
  simp only [c26, chain, nt, q82, q85, q86, E.prop, den_nn0, den_nn1, den_l, den_v, den_add, den_sub, den_mul, den_emod, den_u8, den_le, den_lt, den_if]
  intro h0 h1 h2
  all_goals first
    | omega
    | (repeat' (first | split at h0 | split at h1 | split at h2)
       all_goals omega)
end Go.Proofs.Ytjgobpmhdeancaa.ClTablePutsF
