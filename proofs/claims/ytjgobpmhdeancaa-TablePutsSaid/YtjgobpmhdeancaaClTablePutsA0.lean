/- Conditions that cannot hold together (law TablePutsA). No condition. -/
import Derived.Test.YtjgobpmhdeancaaRunTablePutsA
import Derived.Test.YtjgobpmhdeancaaPlClause
namespace Go.Proofs.Ytjgobpmhdeancaa.ClTablePutsA
open Go Go.Sx Go.Proofs.Ytjgobpmhdeancaa.RunTablePutsA
set_option linter.unusedVariables false
set_option linter.unusedSimpArgs false
set_option maxRecDepth 100000
set_option maxHeartbeats 4000000
def c0 : List E := [q3, q4]
theorem c0_no (ρ : Env) : chain ρ False c0 := by
  have w0 := u8_range (ρ.v 0)
  simp only [c0, chain, nt, q3, q4, E.prop, den_nn0, den_nn1, den_l, den_v, den_add, den_sub, den_mul, den_emod, den_u8, den_le, den_lt, den_if]
  intro h0 h1
  all_goals first
    | omega
    | (repeat' (first | split at h0 | split at h1)
       all_goals omega)
def c1 : List E := [q1, q6, q7]
theorem c1_no (ρ : Env) : chain ρ False c1 := by
  have w0 := u8_range (ρ.v 0)
  have w1 := u8_range (ρ.v 1)
  simp only [c1, chain, nt, q1, q6, q7, E.prop, den_nn0, den_nn1, den_l, den_v, den_add, den_sub, den_mul, den_emod, den_u8, den_le, den_lt, den_if]
  intro h0 h1 h2
  all_goals first
    | omega
    | (repeat' (first | split at h0 | split at h1 | split at h2)
       all_goals omega)
def c2 : List E := [q2, q7]
theorem c2_no (ρ : Env) : chain ρ False c2 := by
  have w0 := u8_range (ρ.v 0)
  have w1 := u8_range (ρ.v 1)
  simp only [c2, chain, nt, q2, q7, E.prop, den_nn0, den_nn1, den_l, den_v, den_add, den_sub, den_mul, den_emod, den_u8, den_le, den_lt, den_if]
  intro h0 h1
  all_goals first
    | omega
    | (repeat' (first | split at h0 | split at h1)
       all_goals omega)
def c3 : List E := [nt q27, q14, q16, q4, q5]
theorem c3_no (ρ : Env) : chain ρ False c3 := by
  have w0 := u8_range (ρ.v 0)
  simp only [c3, chain, nt, q14, q16, q27, q4, q5, E.prop, den_nn0, den_nn1, den_l, den_v, den_add, den_sub, den_mul, den_emod, den_u8, den_le, den_lt, den_if]
  intro h0 h1 h2 h3 h4
  all_goals first
    | omega
    | (repeat' (first | split at h0 | split at h1 | split at h2 | split at h3 | split at h4)
       all_goals omega)
def c4 : List E := [nt q29, q7]
theorem c4_no (ρ : Env) : chain ρ False c4 := by
  have w0 := u8_range (ρ.v 0)
  have w1 := u8_range (ρ.v 1)
  simp only [c4, chain, nt, q29, q7, E.prop, den_nn0, den_nn1, den_l, den_v, den_add, den_sub, den_mul, den_emod, den_u8, den_le, den_lt, den_if]
  intro h0 h1
  all_goals first
    | omega
    | (repeat' (first | split at h0 | split at h1)
       all_goals omega)
def c5 : List E := [q33]
theorem c5_no (ρ : Env) : chain ρ False c5 := by
  have w0 := u8_range (ρ.v 0)
  simp only [c5, chain, nt, q33, E.prop, den_nn0, den_nn1, den_l, den_v, den_add, den_sub, den_mul, den_emod, den_u8, den_le, den_lt, den_if]
  intro h0
  all_goals first
    | omega
    | (repeat' (first | split at h0)
       all_goals omega)
def c6 : List E := [q2, q34, q9]
theorem c6_no (ρ : Env) : chain ρ False c6 := by
  have w0 := u8_range (ρ.v 0)
  have w1 := u8_range (ρ.v 1)
  simp only [c6, chain, nt, q2, q34, q9, E.prop, den_nn0, den_nn1, den_l, den_v, den_add, den_sub, den_mul, den_emod, den_u8, den_le, den_lt, den_if]
  intro h0 h1 h2
  all_goals first
    | omega
    | (repeat' (first | split at h0 | split at h1 | split at h2)
       all_goals omega)
def c7 : List E := [nt q29, q34, q9]
theorem c7_no (ρ : Env) : chain ρ False c7 := by
  have w0 := u8_range (ρ.v 0)
  have w1 := u8_range (ρ.v 1)
  simp only [c7, chain, nt, q29, q34, q9, E.prop, den_nn0, den_nn1, den_l, den_v, den_add, den_sub, den_mul, den_emod, den_u8, den_le, den_lt, den_if]
  intro h0 h1 h2
  all_goals first
    | omega
    | (repeat' (first | split at h0 | split at h1 | split at h2)
       all_goals omega)
def c8 : List E := [q0, q1, q14, q16, q23, q37]
theorem c8_no (ρ : Env) : chain ρ False c8 := by
  have w0 := u8_range (ρ.v 0)
  have w1 := u8_range (ρ.v 1)
  simp only [c8, chain, nt, q0, q1, q14, q16, q23, q37, E.prop, den_nn0, den_nn1, den_l, den_v, den_add, den_sub, den_mul, den_emod, den_u8, den_le, den_lt, den_if]
  intro h0 h1 h2 h3 h4 h5
  all_goals first
    | omega
    | (repeat' (first | split at h0 | split at h1 | split at h2 | split at h3 | split at h4 | split at h5)
       all_goals omega)
def c9 : List E := [nt q38, q0, q1, q14, q16, q23]
theorem c9_no (ρ : Env) : chain ρ False c9 := by
  have w0 := u8_range (ρ.v 0)
  have w1 := u8_range (ρ.v 1)
  simp only [c9, chain, nt, q0, q1, q14, q16, q23, q38, E.prop, den_nn0, den_nn1, den_l, den_v, den_add, den_sub, den_mul, den_emod, den_u8, den_le, den_lt, den_if]
  intro h0 h1 h2 h3 h4 h5
  all_goals first
    | omega
    | (repeat' (first | split at h0 | split at h1 | split at h2 | split at h3 | split at h4 | split at h5)
       all_goals omega)
def c10 : List E := [nt q37, q14, q16, q24, q4, q9]
theorem c10_no (ρ : Env) : chain ρ False c10 := by
  have w0 := u8_range (ρ.v 0)
  have w1 := u8_range (ρ.v 1)
  simp only [c10, chain, nt, q14, q16, q24, q37, q4, q9, E.prop, den_nn0, den_nn1, den_l, den_v, den_add, den_sub, den_mul, den_emod, den_u8, den_le, den_lt, den_if]
  intro h0 h1 h2 h3 h4 h5
  all_goals first
    | omega
    | (repeat' (first | split at h0 | split at h1 | split at h2 | split at h3 | split at h4 | split at h5)
       all_goals omega)
def c11 : List E := [nt q37, q14, q16, q25, q4, q5]
theorem c11_no (ρ : Env) : chain ρ False c11 := by
  have w0 := u8_range (ρ.v 0)
  have w1 := u8_range (ρ.v 1)
  simp only [c11, chain, nt, q14, q16, q25, q37, q4, q5, E.prop, den_nn0, den_nn1, den_l, den_v, den_add, den_sub, den_mul, den_emod, den_u8, den_le, den_lt, den_if]
  intro h0 h1 h2 h3 h4 h5
  all_goals first
    | omega
    | (repeat' (first | split at h0 | split at h1 | split at h2 | split at h3 | split at h4 | split at h5)
       all_goals omega)
def c12 : List E := [q23, q26, q36]
theorem c12_no (ρ : Env) : chain ρ False c12 := by
  have w0 := u8_range (ρ.v 0)
  have w1 := u8_range (ρ.v 1)
  simp only [c12, chain, nt, q23, q26, q36, E.prop, den_nn0, den_nn1, den_l, den_v, den_add, den_sub, den_mul, den_emod, den_u8, den_le, den_lt, den_if]
  intro h0 h1 h2
  all_goals first
    | omega
    | (repeat' (first | split at h0 | split at h1 | split at h2)
       all_goals omega)
def c13 : List E := [nt q39, q23, q36]
theorem c13_no (ρ : Env) : chain ρ False c13 := by
  have w0 := u8_range (ρ.v 0)
  have w1 := u8_range (ρ.v 1)
  simp only [c13, chain, nt, q23, q36, q39, E.prop, den_nn0, den_nn1, den_l, den_v, den_add, den_sub, den_mul, den_emod, den_u8, den_le, den_lt, den_if]
  intro h0 h1 h2
  all_goals first
    | omega
    | (repeat' (first | split at h0 | split at h1 | split at h2)
       all_goals omega)
def c14 : List E := [q43, q44]
theorem c14_no (ρ : Env) : chain ρ False c14 := by
  have w0 := u8_range (ρ.v 0)
  simp only [c14, chain, nt, q43, q44, E.prop, den_nn0, den_nn1, den_l, den_v, den_add, den_sub, den_mul, den_emod, den_u8, den_le, den_lt, den_if]
  intro h0 h1
  all_goals first
    | omega
    | (repeat' (first | split at h0 | split at h1)
       all_goals omega)
def c15 : List E := [nt q50, q14, q16, q44, q45]
theorem c15_no (ρ : Env) : chain ρ False c15 := by
  have w0 := u8_range (ρ.v 0)
  simp only [c15, chain, nt, q14, q16, q44, q45, q50, E.prop, den_nn0, den_nn1, den_l, den_v, den_add, den_sub, den_mul, den_emod, den_u8, den_le, den_lt, den_if]
  intro h0 h1 h2 h3 h4
  all_goals first
    | omega
    | (repeat' (first | split at h0 | split at h1 | split at h2 | split at h3 | split at h4)
       all_goals omega)
def c16 : List E := [q11, q2, q53]
theorem c16_no (ρ : Env) : chain ρ False c16 := by
  have w0 := u8_range (ρ.v 0)
  have w1 := u8_range (ρ.v 1)
  simp only [c16, chain, nt, q11, q2, q53, E.prop, den_nn0, den_nn1, den_l, den_v, den_add, den_sub, den_mul, den_emod, den_u8, den_le, den_lt, den_if]
  intro h0 h1 h2
  all_goals first
    | omega
    | (repeat' (first | split at h0 | split at h1 | split at h2)
       all_goals omega)
def c17 : List E := [nt q29, q11, q53]
theorem c17_no (ρ : Env) : chain ρ False c17 := by
  have w0 := u8_range (ρ.v 0)
  have w1 := u8_range (ρ.v 1)
  simp only [c17, chain, nt, q11, q29, q53, E.prop, den_nn0, den_nn1, den_l, den_v, den_add, den_sub, den_mul, den_emod, den_u8, den_le, den_lt, den_if]
  intro h0 h1 h2
  all_goals first
    | omega
    | (repeat' (first | split at h0 | split at h1 | split at h2)
       all_goals omega)
def c18 : List E := [q14, q16, q41, q42, q47, q55]
theorem c18_no (ρ : Env) : chain ρ False c18 := by
  have w0 := u8_range (ρ.v 0)
  have w1 := u8_range (ρ.v 1)
  simp only [c18, chain, nt, q14, q16, q41, q42, q47, q55, E.prop, den_nn0, den_nn1, den_l, den_v, den_add, den_sub, den_mul, den_emod, den_u8, den_le, den_lt, den_if]
  intro h0 h1 h2 h3 h4 h5
  all_goals first
    | omega
    | (repeat' (first | split at h0 | split at h1 | split at h2 | split at h3 | split at h4 | split at h5)
       all_goals omega)
def c19 : List E := [nt q56, q14, q16, q41, q42, q47]
theorem c19_no (ρ : Env) : chain ρ False c19 := by
  have w0 := u8_range (ρ.v 0)
  have w1 := u8_range (ρ.v 1)
  simp only [c19, chain, nt, q14, q16, q41, q42, q47, q56, E.prop, den_nn0, den_nn1, den_l, den_v, den_add, den_sub, den_mul, den_emod, den_u8, den_le, den_lt, den_if]
  intro h0 h1 h2 h3 h4 h5
  all_goals first
    | omega
    | (repeat' (first | split at h0 | split at h1 | split at h2 | split at h3 | split at h4 | split at h5)
       all_goals omega)
def c20 : List E := [nt q55, q11, q14, q16, q44, q48]
theorem c20_no (ρ : Env) : chain ρ False c20 := by
  have w0 := u8_range (ρ.v 0)
  have w1 := u8_range (ρ.v 1)
  simp only [c20, chain, nt, q11, q14, q16, q44, q48, q55, E.prop, den_nn0, den_nn1, den_l, den_v, den_add, den_sub, den_mul, den_emod, den_u8, den_le, den_lt, den_if]
  intro h0 h1 h2 h3 h4 h5
  all_goals first
    | omega
    | (repeat' (first | split at h0 | split at h1 | split at h2 | split at h3 | split at h4 | split at h5)
       all_goals omega)
def c21 : List E := [nt q55, q14, q16, q44, q45, q49]
theorem c21_no (ρ : Env) : chain ρ False c21 := by
  have w0 := u8_range (ρ.v 0)
  have w1 := u8_range (ρ.v 1)
  simp only [c21, chain, nt, q14, q16, q44, q45, q49, q55, E.prop, den_nn0, den_nn1, den_l, den_v, den_add, den_sub, den_mul, den_emod, den_u8, den_le, den_lt, den_if]
  intro h0 h1 h2 h3 h4 h5
  all_goals first
    | omega
    | (repeat' (first | split at h0 | split at h1 | split at h2 | split at h3 | split at h4 | split at h5)
       all_goals omega)
def c22 : List E := [q26, q47, q54]
theorem c22_no (ρ : Env) : chain ρ False c22 := by
  have w0 := u8_range (ρ.v 0)
  have w1 := u8_range (ρ.v 1)
  simp only [c22, chain, nt, q26, q47, q54, E.prop, den_nn0, den_nn1, den_l, den_v, den_add, den_sub, den_mul, den_emod, den_u8, den_le, den_lt, den_if]
  intro h0 h1 h2
  all_goals first
    | omega
    | (repeat' (first | split at h0 | split at h1 | split at h2)
       all_goals omega)
def c23 : List E := [nt q39, q47, q54]
theorem c23_no (ρ : Env) : chain ρ False c23 := by
  have w0 := u8_range (ρ.v 0)
  have w1 := u8_range (ρ.v 1)
  simp only [c23, chain, nt, q39, q47, q54, E.prop, den_nn0, den_nn1, den_l, den_v, den_add, den_sub, den_mul, den_emod, den_u8, den_le, den_lt, den_if]
  intro h0 h1 h2
  all_goals first
    | omega
    | (repeat' (first | split at h0 | split at h1 | split at h2)
       all_goals omega)
def c24 : List E := [q60, q61]
theorem c24_no (ρ : Env) : chain ρ False c24 := by
  have w0 := u8_range (ρ.v 0)
  simp only [c24, chain, nt, q60, q61, E.prop, den_nn0, den_nn1, den_l, den_v, den_add, den_sub, den_mul, den_emod, den_u8, den_le, den_lt, den_if]
  intro h0 h1
  all_goals first
    | omega
    | (repeat' (first | split at h0 | split at h1)
       all_goals omega)
def c25 : List E := [nt q67, q14, q16, q61, q62]
theorem c25_no (ρ : Env) : chain ρ False c25 := by
  have w0 := u8_range (ρ.v 0)
  simp only [c25, chain, nt, q14, q16, q61, q62, q67, E.prop, den_nn0, den_nn1, den_l, den_v, den_add, den_sub, den_mul, den_emod, den_u8, den_le, den_lt, den_if]
  intro h0 h1 h2 h3 h4
  all_goals first
    | omega
    | (repeat' (first | split at h0 | split at h1 | split at h2 | split at h3 | split at h4)
       all_goals omega)
def c26 : List E := [q59, q61, q70]
theorem c26_no (ρ : Env) : chain ρ False c26 := by
  have w0 := u8_range (ρ.v 0)
  have w1 := u8_range (ρ.v 1)
  simp only [c26, chain, nt, q59, q61, q70, E.prop, den_nn0, den_nn1, den_l, den_v, den_add, den_sub, den_mul, den_emod, den_u8, den_le, den_lt, den_if]
  intro h0 h1 h2
  all_goals first
    | omega
    | (repeat' (first | split at h0 | split at h1 | split at h2)
       all_goals omega)
def c27 : List E := [nt q29, q13, q70]
theorem c27_no (ρ : Env) : chain ρ False c27 := by
  have w0 := u8_range (ρ.v 0)
  have w1 := u8_range (ρ.v 1)
  simp only [c27, chain, nt, q13, q29, q70, E.prop, den_nn0, den_nn1, den_l, den_v, den_add, den_sub, den_mul, den_emod, den_u8, den_le, den_lt, den_if]
  intro h0 h1 h2
  all_goals first
    | omega
    | (repeat' (first | split at h0 | split at h1 | split at h2)
       all_goals omega)
def c28 : List E := [q14, q16, q58, q59, q64, q72]
theorem c28_no (ρ : Env) : chain ρ False c28 := by
  have w0 := u8_range (ρ.v 0)
  have w1 := u8_range (ρ.v 1)
  simp only [c28, chain, nt, q14, q16, q58, q59, q64, q72, E.prop, den_nn0, den_nn1, den_l, den_v, den_add, den_sub, den_mul, den_emod, den_u8, den_le, den_lt, den_if]
  intro h0 h1 h2 h3 h4 h5
  all_goals first
    | omega
    | (repeat' (first | split at h0 | split at h1 | split at h2 | split at h3 | split at h4 | split at h5)
       all_goals omega)
def c29 : List E := [nt q73, q14, q16, q58, q59, q64]
theorem c29_no (ρ : Env) : chain ρ False c29 := by
  have w0 := u8_range (ρ.v 0)
  have w1 := u8_range (ρ.v 1)
  simp only [c29, chain, nt, q14, q16, q58, q59, q64, q73, E.prop, den_nn0, den_nn1, den_l, den_v, den_add, den_sub, den_mul, den_emod, den_u8, den_le, den_lt, den_if]
  intro h0 h1 h2 h3 h4 h5
  all_goals first
    | omega
    | (repeat' (first | split at h0 | split at h1 | split at h2 | split at h3 | split at h4 | split at h5)
       all_goals omega)
def c30 : List E := [nt q72, q13, q14, q16, q61, q65]
theorem c30_no (ρ : Env) : chain ρ False c30 := by
  have w0 := u8_range (ρ.v 0)
  have w1 := u8_range (ρ.v 1)
  simp only [c30, chain, nt, q13, q14, q16, q61, q65, q72, E.prop, den_nn0, den_nn1, den_l, den_v, den_add, den_sub, den_mul, den_emod, den_u8, den_le, den_lt, den_if]
  intro h0 h1 h2 h3 h4 h5
  all_goals first
    | omega
    | (repeat' (first | split at h0 | split at h1 | split at h2 | split at h3 | split at h4 | split at h5)
       all_goals omega)
def c31 : List E := [nt q72, q14, q16, q61, q62, q66]
theorem c31_no (ρ : Env) : chain ρ False c31 := by
  have w0 := u8_range (ρ.v 0)
  have w1 := u8_range (ρ.v 1)
  simp only [c31, chain, nt, q14, q16, q61, q62, q66, q72, E.prop, den_nn0, den_nn1, den_l, den_v, den_add, den_sub, den_mul, den_emod, den_u8, den_le, den_lt, den_if]
  intro h0 h1 h2 h3 h4 h5
  all_goals first
    | omega
    | (repeat' (first | split at h0 | split at h1 | split at h2 | split at h3 | split at h4 | split at h5)
       all_goals omega)
def c32 : List E := [q26, q64, q71]
theorem c32_no (ρ : Env) : chain ρ False c32 := by
  have w0 := u8_range (ρ.v 0)
  have w1 := u8_range (ρ.v 1)
  simp only [c32, chain, nt, q26, q64, q71, E.prop, den_nn0, den_nn1, den_l, den_v, den_add, den_sub, den_mul, den_emod, den_u8, den_le, den_lt, den_if]
  intro h0 h1 h2
  all_goals first
    | omega
    | (repeat' (first | split at h0 | split at h1 | split at h2)
       all_goals omega)
def c33 : List E := [nt q39, q64, q71]
theorem c33_no (ρ : Env) : chain ρ False c33 := by
  have w0 := u8_range (ρ.v 0)
  have w1 := u8_range (ρ.v 1)
  simp only [c33, chain, nt, q39, q64, q71, E.prop, den_nn0, den_nn1, den_l, den_v, den_add, den_sub, den_mul, den_emod, den_u8, den_le, den_lt, den_if]
  intro h0 h1 h2
  all_goals first
    | omega
    | (repeat' (first | split at h0 | split at h1 | split at h2)
       all_goals omega)
def c34 : List E := [q76, q77]
theorem c34_no (ρ : Env) : chain ρ False c34 := by
  have w0 := u8_range (ρ.v 0)
  simp only [c34, chain, nt, q76, q77, E.prop, den_nn0, den_nn1, den_l, den_v, den_add, den_sub, den_mul, den_emod, den_u8, den_le, den_lt, den_if]
  intro h0 h1
  all_goals first
    | omega
    | (repeat' (first | split at h0 | split at h1)
       all_goals omega)
def c35 : List E := [nt q82, q14, q16, q77, q78]
theorem c35_no (ρ : Env) : chain ρ False c35 := by
  have w0 := u8_range (ρ.v 0)
  simp only [c35, chain, nt, q14, q16, q77, q78, q82, E.prop, den_nn0, den_nn1, den_l, den_v, den_add, den_sub, den_mul, den_emod, den_u8, den_le, den_lt, den_if]
  intro h0 h1 h2 h3 h4
  all_goals first
    | omega
    | (repeat' (first | split at h0 | split at h1 | split at h2 | split at h3 | split at h4)
       all_goals omega)
def c36 : List E := [nt q39, q35, q80]
theorem c36_no (ρ : Env) : chain ρ False c36 := by
  have w0 := u8_range (ρ.v 0)
  have w1 := u8_range (ρ.v 1)
  simp only [c36, chain, nt, q35, q39, q80, E.prop, den_nn0, den_nn1, den_l, den_v, den_add, den_sub, den_mul, den_emod, den_u8, den_le, den_lt, den_if]
  intro h0 h1 h2
  all_goals first
    | omega
    | (repeat' (first | split at h0 | split at h1 | split at h2)
       all_goals omega)
def c37 : List E := [q44, q45, q89]
theorem c37_no (ρ : Env) : chain ρ False c37 := by
  have w0 := u8_range (ρ.v 0)
  simp only [c37, chain, nt, q44, q45, q89, E.prop, den_nn0, den_nn1, den_l, den_v, den_add, den_sub, den_mul, den_emod, den_u8, den_le, den_lt, den_if]
  intro h0 h1 h2
  all_goals first
    | omega
    | (repeat' (first | split at h0 | split at h1 | split at h2)
       all_goals omega)
def c38 : List E := [nt q29, q13, q89]
theorem c38_no (ρ : Env) : chain ρ False c38 := by
  have w0 := u8_range (ρ.v 0)
  have w1 := u8_range (ρ.v 1)
  simp only [c38, chain, nt, q13, q29, q89, E.prop, den_nn0, den_nn1, den_l, den_v, den_add, den_sub, den_mul, den_emod, den_u8, den_le, den_lt, den_if]
  intro h0 h1 h2
  all_goals first
    | omega
    | (repeat' (first | split at h0 | split at h1 | split at h2)
       all_goals omega)
def c39 : List E := [q61, q62, q89]
theorem c39_no (ρ : Env) : chain ρ False c39 := by
  have w0 := u8_range (ρ.v 0)
  simp only [c39, chain, nt, q61, q62, q89, E.prop, den_nn0, den_nn1, den_l, den_v, den_add, den_sub, den_mul, den_emod, den_u8, den_le, den_lt, den_if]
  intro h0 h1 h2
  all_goals first
    | omega
    | (repeat' (first | split at h0 | split at h1 | split at h2)
       all_goals omega)
def c40 : List E := [q77, q78, q89]
theorem c40_no (ρ : Env) : chain ρ False c40 := by
  have w0 := u8_range (ρ.v 0)
  simp only [c40, chain, nt, q77, q78, q89, E.prop, den_nn0, den_nn1, den_l, den_v, den_add, den_sub, den_mul, den_emod, den_u8, den_le, den_lt, den_if]
  intro h0 h1 h2
  all_goals first
    | omega
    | (repeat' (first | split at h0 | split at h1 | split at h2)
       all_goals omega)
def c41 : List E := [q89, q93, q94]
theorem c41_no (ρ : Env) : chain ρ False c41 := by
  have w0 := u8_range (ρ.v 0)
  simp only [c41, chain, nt, q89, q93, q94, E.prop, den_nn0, den_nn1, den_l, den_v, den_add, den_sub, den_mul, den_emod, den_u8, den_le, den_lt, den_if]
  intro h0 h1 h2
  all_goals first
    | omega
    | (repeat' (first | split at h0 | split at h1 | split at h2)
       all_goals omega)
end Go.Proofs.Ytjgobpmhdeancaa.ClTablePutsA
