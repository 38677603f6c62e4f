/- Conditions that cannot hold together (law TablePutsB). No condition. -/
import Derived.Test.YtjgobpmhdeancaaRunTablePutsB
import Derived.Test.YtjgobpmhdeancaaPlClause
namespace Go.Proofs.Ytjgobpmhdeancaa.ClTablePutsB
open Go Go.Sx Go.Proofs.Ytjgobpmhdeancaa.RunTablePutsB
set_option linter.unusedVariables false
set_option linter.unusedSimpArgs false
set_option maxRecDepth 100000
set_option maxHeartbeats 4000000
def c0 : List E := [q3, q4]
theorem c0_no (ρ : Env) : chain ρ False c0 := by
  have w0 := u8_range (ρ.v 0)
  simp only [c0, chain, nt, q3, q4, E.prop, den_nn0, den_nn1, den_l, den_v, den_add, den_sub, den_mul, den_emod, den_u8, den_le, den_lt, den_if]
  intro h0 h1
  all_goals first
    | omega
    | (repeat' (first | split at h0 | split at h1)
       all_goals omega)
def c1 : List E := [q1, q6, q7]
theorem c1_no (ρ : Env) : chain ρ False c1 := by
  have w0 := u8_range (ρ.v 0)
  have w1 := u8_range (ρ.v 1)
  simp only [c1, chain, nt, q1, q6, q7, E.prop, den_nn0, den_nn1, den_l, den_v, den_add, den_sub, den_mul, den_emod, den_u8, den_le, den_lt, den_if]
  intro h0 h1 h2
  all_goals first
    | omega
    | (repeat' (first | split at h0 | split at h1 | split at h2)
       all_goals omega)
def c2 : List E := [q2, q7]
theorem c2_no (ρ : Env) : chain ρ False c2 := by
  have w0 := u8_range (ρ.v 0)
  have w1 := u8_range (ρ.v 1)
  simp only [c2, chain, nt, q2, q7, E.prop, den_nn0, den_nn1, den_l, den_v, den_add, den_sub, den_mul, den_emod, den_u8, den_le, den_lt, den_if]
  intro h0 h1
  all_goals first
    | omega
    | (repeat' (first | split at h0 | split at h1)
       all_goals omega)
def c3 : List E := [nt q29, q16, q18, q4, q5]
theorem c3_no (ρ : Env) : chain ρ False c3 := by
  have w0 := u8_range (ρ.v 0)
  simp only [c3, chain, nt, q16, q18, q29, q4, q5, E.prop, den_nn0, den_nn1, den_l, den_v, den_add, den_sub, den_mul, den_emod, den_u8, den_le, den_lt, den_if]
  intro h0 h1 h2 h3 h4
  all_goals first
    | omega
    | (repeat' (first | split at h0 | split at h1 | split at h2 | split at h3 | split at h4)
       all_goals omega)
def c4 : List E := [nt q31, q7]
theorem c4_no (ρ : Env) : chain ρ False c4 := by
  have w0 := u8_range (ρ.v 0)
  have w1 := u8_range (ρ.v 1)
  simp only [c4, chain, nt, q31, q7, E.prop, den_nn0, den_nn1, den_l, den_v, den_add, den_sub, den_mul, den_emod, den_u8, den_le, den_lt, den_if]
  intro h0 h1
  all_goals first
    | omega
    | (repeat' (first | split at h0 | split at h1)
       all_goals omega)
def c5 : List E := [q35]
theorem c5_no (ρ : Env) : chain ρ False c5 := by
  have w0 := u8_range (ρ.v 0)
  simp only [c5, chain, nt, q35, E.prop, den_nn0, den_nn1, den_l, den_v, den_add, den_sub, den_mul, den_emod, den_u8, den_le, den_lt, den_if]
  intro h0
  all_goals first
    | omega
    | (repeat' (first | split at h0)
       all_goals omega)
def c6 : List E := [q2, q36, q9]
theorem c6_no (ρ : Env) : chain ρ False c6 := by
  have w0 := u8_range (ρ.v 0)
  have w1 := u8_range (ρ.v 1)
  simp only [c6, chain, nt, q2, q36, q9, E.prop, den_nn0, den_nn1, den_l, den_v, den_add, den_sub, den_mul, den_emod, den_u8, den_le, den_lt, den_if]
  intro h0 h1 h2
  all_goals first
    | omega
    | (repeat' (first | split at h0 | split at h1 | split at h2)
       all_goals omega)
def c7 : List E := [nt q31, q36, q9]
theorem c7_no (ρ : Env) : chain ρ False c7 := by
  have w0 := u8_range (ρ.v 0)
  have w1 := u8_range (ρ.v 1)
  simp only [c7, chain, nt, q31, q36, q9, E.prop, den_nn0, den_nn1, den_l, den_v, den_add, den_sub, den_mul, den_emod, den_u8, den_le, den_lt, den_if]
  intro h0 h1 h2
  all_goals first
    | omega
    | (repeat' (first | split at h0 | split at h1 | split at h2)
       all_goals omega)
def c8 : List E := [q0, q1, q16, q18, q25, q39]
theorem c8_no (ρ : Env) : chain ρ False c8 := by
  have w0 := u8_range (ρ.v 0)
  have w1 := u8_range (ρ.v 1)
  simp only [c8, chain, nt, q0, q1, q16, q18, q25, q39, E.prop, den_nn0, den_nn1, den_l, den_v, den_add, den_sub, den_mul, den_emod, den_u8, den_le, den_lt, den_if]
  intro h0 h1 h2 h3 h4 h5
  all_goals first
    | omega
    | (repeat' (first | split at h0 | split at h1 | split at h2 | split at h3 | split at h4 | split at h5)
       all_goals omega)
def c9 : List E := [nt q40, q0, q1, q16, q18, q25]
theorem c9_no (ρ : Env) : chain ρ False c9 := by
  have w0 := u8_range (ρ.v 0)
  have w1 := u8_range (ρ.v 1)
  simp only [c9, chain, nt, q0, q1, q16, q18, q25, q40, E.prop, den_nn0, den_nn1, den_l, den_v, den_add, den_sub, den_mul, den_emod, den_u8, den_le, den_lt, den_if]
  intro h0 h1 h2 h3 h4 h5
  all_goals first
    | omega
    | (repeat' (first | split at h0 | split at h1 | split at h2 | split at h3 | split at h4 | split at h5)
       all_goals omega)
def c10 : List E := [nt q39, q16, q18, q26, q4, q9]
theorem c10_no (ρ : Env) : chain ρ False c10 := by
  have w0 := u8_range (ρ.v 0)
  have w1 := u8_range (ρ.v 1)
  simp only [c10, chain, nt, q16, q18, q26, q39, q4, q9, E.prop, den_nn0, den_nn1, den_l, den_v, den_add, den_sub, den_mul, den_emod, den_u8, den_le, den_lt, den_if]
  intro h0 h1 h2 h3 h4 h5
  all_goals first
    | omega
    | (repeat' (first | split at h0 | split at h1 | split at h2 | split at h3 | split at h4 | split at h5)
       all_goals omega)
def c11 : List E := [nt q39, q16, q18, q27, q4, q5]
theorem c11_no (ρ : Env) : chain ρ False c11 := by
  have w0 := u8_range (ρ.v 0)
  have w1 := u8_range (ρ.v 1)
  simp only [c11, chain, nt, q16, q18, q27, q39, q4, q5, E.prop, den_nn0, den_nn1, den_l, den_v, den_add, den_sub, den_mul, den_emod, den_u8, den_le, den_lt, den_if]
  intro h0 h1 h2 h3 h4 h5
  all_goals first
    | omega
    | (repeat' (first | split at h0 | split at h1 | split at h2 | split at h3 | split at h4 | split at h5)
       all_goals omega)
def c12 : List E := [q25, q28, q38]
theorem c12_no (ρ : Env) : chain ρ False c12 := by
  have w0 := u8_range (ρ.v 0)
  have w1 := u8_range (ρ.v 1)
  simp only [c12, chain, nt, q25, q28, q38, E.prop, den_nn0, den_nn1, den_l, den_v, den_add, den_sub, den_mul, den_emod, den_u8, den_le, den_lt, den_if]
  intro h0 h1 h2
  all_goals first
    | omega
    | (repeat' (first | split at h0 | split at h1 | split at h2)
       all_goals omega)
def c13 : List E := [nt q41, q25, q38]
theorem c13_no (ρ : Env) : chain ρ False c13 := by
  have w0 := u8_range (ρ.v 0)
  have w1 := u8_range (ρ.v 1)
  simp only [c13, chain, nt, q25, q38, q41, E.prop, den_nn0, den_nn1, den_l, den_v, den_add, den_sub, den_mul, den_emod, den_u8, den_le, den_lt, den_if]
  intro h0 h1 h2
  all_goals first
    | omega
    | (repeat' (first | split at h0 | split at h1 | split at h2)
       all_goals omega)
def c14 : List E := [q45, q46]
theorem c14_no (ρ : Env) : chain ρ False c14 := by
  have w0 := u8_range (ρ.v 0)
  simp only [c14, chain, nt, q45, q46, E.prop, den_nn0, den_nn1, den_l, den_v, den_add, den_sub, den_mul, den_emod, den_u8, den_le, den_lt, den_if]
  intro h0 h1
  all_goals first
    | omega
    | (repeat' (first | split at h0 | split at h1)
       all_goals omega)
def c15 : List E := [nt q52, q16, q18, q46, q47]
theorem c15_no (ρ : Env) : chain ρ False c15 := by
  have w0 := u8_range (ρ.v 0)
  simp only [c15, chain, nt, q16, q18, q46, q47, q52, E.prop, den_nn0, den_nn1, den_l, den_v, den_add, den_sub, den_mul, den_emod, den_u8, den_le, den_lt, den_if]
  intro h0 h1 h2 h3 h4
  all_goals first
    | omega
    | (repeat' (first | split at h0 | split at h1 | split at h2 | split at h3 | split at h4)
       all_goals omega)
def c16 : List E := [q11, q2, q55]
theorem c16_no (ρ : Env) : chain ρ False c16 := by
  have w0 := u8_range (ρ.v 0)
  have w1 := u8_range (ρ.v 1)
  simp only [c16, chain, nt, q11, q2, q55, E.prop, den_nn0, den_nn1, den_l, den_v, den_add, den_sub, den_mul, den_emod, den_u8, den_le, den_lt, den_if]
  intro h0 h1 h2
  all_goals first
    | omega
    | (repeat' (first | split at h0 | split at h1 | split at h2)
       all_goals omega)
def c17 : List E := [nt q31, q11, q55]
theorem c17_no (ρ : Env) : chain ρ False c17 := by
  have w0 := u8_range (ρ.v 0)
  have w1 := u8_range (ρ.v 1)
  simp only [c17, chain, nt, q11, q31, q55, E.prop, den_nn0, den_nn1, den_l, den_v, den_add, den_sub, den_mul, den_emod, den_u8, den_le, den_lt, den_if]
  intro h0 h1 h2
  all_goals first
    | omega
    | (repeat' (first | split at h0 | split at h1 | split at h2)
       all_goals omega)
def c18 : List E := [q16, q18, q43, q44, q49, q57]
theorem c18_no (ρ : Env) : chain ρ False c18 := by
  have w0 := u8_range (ρ.v 0)
  have w1 := u8_range (ρ.v 1)
  simp only [c18, chain, nt, q16, q18, q43, q44, q49, q57, E.prop, den_nn0, den_nn1, den_l, den_v, den_add, den_sub, den_mul, den_emod, den_u8, den_le, den_lt, den_if]
  intro h0 h1 h2 h3 h4 h5
  all_goals first
    | omega
    | (repeat' (first | split at h0 | split at h1 | split at h2 | split at h3 | split at h4 | split at h5)
       all_goals omega)
def c19 : List E := [nt q58, q16, q18, q43, q44, q49]
theorem c19_no (ρ : Env) : chain ρ False c19 := by
  have w0 := u8_range (ρ.v 0)
  have w1 := u8_range (ρ.v 1)
  simp only [c19, chain, nt, q16, q18, q43, q44, q49, q58, E.prop, den_nn0, den_nn1, den_l, den_v, den_add, den_sub, den_mul, den_emod, den_u8, den_le, den_lt, den_if]
  intro h0 h1 h2 h3 h4 h5
  all_goals first
    | omega
    | (repeat' (first | split at h0 | split at h1 | split at h2 | split at h3 | split at h4 | split at h5)
       all_goals omega)
def c20 : List E := [nt q57, q11, q16, q18, q46, q50]
theorem c20_no (ρ : Env) : chain ρ False c20 := by
  have w0 := u8_range (ρ.v 0)
  have w1 := u8_range (ρ.v 1)
  simp only [c20, chain, nt, q11, q16, q18, q46, q50, q57, E.prop, den_nn0, den_nn1, den_l, den_v, den_add, den_sub, den_mul, den_emod, den_u8, den_le, den_lt, den_if]
  intro h0 h1 h2 h3 h4 h5
  all_goals first
    | omega
    | (repeat' (first | split at h0 | split at h1 | split at h2 | split at h3 | split at h4 | split at h5)
       all_goals omega)
def c21 : List E := [nt q57, q16, q18, q46, q47, q51]
theorem c21_no (ρ : Env) : chain ρ False c21 := by
  have w0 := u8_range (ρ.v 0)
  have w1 := u8_range (ρ.v 1)
  simp only [c21, chain, nt, q16, q18, q46, q47, q51, q57, E.prop, den_nn0, den_nn1, den_l, den_v, den_add, den_sub, den_mul, den_emod, den_u8, den_le, den_lt, den_if]
  intro h0 h1 h2 h3 h4 h5
  all_goals first
    | omega
    | (repeat' (first | split at h0 | split at h1 | split at h2 | split at h3 | split at h4 | split at h5)
       all_goals omega)
def c22 : List E := [q28, q49, q56]
theorem c22_no (ρ : Env) : chain ρ False c22 := by
  have w0 := u8_range (ρ.v 0)
  have w1 := u8_range (ρ.v 1)
  simp only [c22, chain, nt, q28, q49, q56, E.prop, den_nn0, den_nn1, den_l, den_v, den_add, den_sub, den_mul, den_emod, den_u8, den_le, den_lt, den_if]
  intro h0 h1 h2
  all_goals first
    | omega
    | (repeat' (first | split at h0 | split at h1 | split at h2)
       all_goals omega)
def c23 : List E := [nt q41, q49, q56]
theorem c23_no (ρ : Env) : chain ρ False c23 := by
  have w0 := u8_range (ρ.v 0)
  have w1 := u8_range (ρ.v 1)
  simp only [c23, chain, nt, q41, q49, q56, E.prop, den_nn0, den_nn1, den_l, den_v, den_add, den_sub, den_mul, den_emod, den_u8, den_le, den_lt, den_if]
  intro h0 h1 h2
  all_goals first
    | omega
    | (repeat' (first | split at h0 | split at h1 | split at h2)
       all_goals omega)
def c24 : List E := [q62, q63]
theorem c24_no (ρ : Env) : chain ρ False c24 := by
  have w0 := u8_range (ρ.v 0)
  simp only [c24, chain, nt, q62, q63, E.prop, den_nn0, den_nn1, den_l, den_v, den_add, den_sub, den_mul, den_emod, den_u8, den_le, den_lt, den_if]
  intro h0 h1
  all_goals first
    | omega
    | (repeat' (first | split at h0 | split at h1)
       all_goals omega)
def c25 : List E := [nt q69, q16, q18, q63, q64]
theorem c25_no (ρ : Env) : chain ρ False c25 := by
  have w0 := u8_range (ρ.v 0)
  simp only [c25, chain, nt, q16, q18, q63, q64, q69, E.prop, den_nn0, den_nn1, den_l, den_v, den_add, den_sub, den_mul, den_emod, den_u8, den_le, den_lt, den_if]
  intro h0 h1 h2 h3 h4
  all_goals first
    | omega
    | (repeat' (first | split at h0 | split at h1 | split at h2 | split at h3 | split at h4)
       all_goals omega)
def c26 : List E := [q2, q24, q72]
theorem c26_no (ρ : Env) : chain ρ False c26 := by
  have w0 := u8_range (ρ.v 0)
  have w1 := u8_range (ρ.v 1)
  simp only [c26, chain, nt, q2, q24, q72, E.prop, den_nn0, den_nn1, den_l, den_v, den_add, den_sub, den_mul, den_emod, den_u8, den_le, den_lt, den_if]
  intro h0 h1 h2
  all_goals first
    | omega
    | (repeat' (first | split at h0 | split at h1 | split at h2)
       all_goals omega)
def c27 : List E := [nt q31, q24, q72]
theorem c27_no (ρ : Env) : chain ρ False c27 := by
  have w0 := u8_range (ρ.v 0)
  have w1 := u8_range (ρ.v 1)
  simp only [c27, chain, nt, q24, q31, q72, E.prop, den_nn0, den_nn1, den_l, den_v, den_add, den_sub, den_mul, den_emod, den_u8, den_le, den_lt, den_if]
  intro h0 h1 h2
  all_goals first
    | omega
    | (repeat' (first | split at h0 | split at h1 | split at h2)
       all_goals omega)
def c28 : List E := [q16, q18, q60, q61, q66, q74]
theorem c28_no (ρ : Env) : chain ρ False c28 := by
  have w0 := u8_range (ρ.v 0)
  have w1 := u8_range (ρ.v 1)
  simp only [c28, chain, nt, q16, q18, q60, q61, q66, q74, E.prop, den_nn0, den_nn1, den_l, den_v, den_add, den_sub, den_mul, den_emod, den_u8, den_le, den_lt, den_if]
  intro h0 h1 h2 h3 h4 h5
  all_goals first
    | omega
    | (repeat' (first | split at h0 | split at h1 | split at h2 | split at h3 | split at h4 | split at h5)
       all_goals omega)
def c29 : List E := [nt q75, q16, q18, q60, q61, q66]
theorem c29_no (ρ : Env) : chain ρ False c29 := by
  have w0 := u8_range (ρ.v 0)
  have w1 := u8_range (ρ.v 1)
  simp only [c29, chain, nt, q16, q18, q60, q61, q66, q75, E.prop, den_nn0, den_nn1, den_l, den_v, den_add, den_sub, den_mul, den_emod, den_u8, den_le, den_lt, den_if]
  intro h0 h1 h2 h3 h4 h5
  all_goals first
    | omega
    | (repeat' (first | split at h0 | split at h1 | split at h2 | split at h3 | split at h4 | split at h5)
       all_goals omega)
def c30 : List E := [nt q74, q16, q18, q24, q63, q67]
theorem c30_no (ρ : Env) : chain ρ False c30 := by
  have w0 := u8_range (ρ.v 0)
  have w1 := u8_range (ρ.v 1)
  simp only [c30, chain, nt, q16, q18, q24, q63, q67, q74, E.prop, den_nn0, den_nn1, den_l, den_v, den_add, den_sub, den_mul, den_emod, den_u8, den_le, den_lt, den_if]
  intro h0 h1 h2 h3 h4 h5
  all_goals first
    | omega
    | (repeat' (first | split at h0 | split at h1 | split at h2 | split at h3 | split at h4 | split at h5)
       all_goals omega)
def c31 : List E := [nt q74, q16, q18, q63, q64, q68]
theorem c31_no (ρ : Env) : chain ρ False c31 := by
  have w0 := u8_range (ρ.v 0)
  have w1 := u8_range (ρ.v 1)
  simp only [c31, chain, nt, q16, q18, q63, q64, q68, q74, E.prop, den_nn0, den_nn1, den_l, den_v, den_add, den_sub, den_mul, den_emod, den_u8, den_le, den_lt, den_if]
  intro h0 h1 h2 h3 h4 h5
  all_goals first
    | omega
    | (repeat' (first | split at h0 | split at h1 | split at h2 | split at h3 | split at h4 | split at h5)
       all_goals omega)
def c32 : List E := [q28, q66, q73]
theorem c32_no (ρ : Env) : chain ρ False c32 := by
  have w0 := u8_range (ρ.v 0)
  have w1 := u8_range (ρ.v 1)
  simp only [c32, chain, nt, q28, q66, q73, E.prop, den_nn0, den_nn1, den_l, den_v, den_add, den_sub, den_mul, den_emod, den_u8, den_le, den_lt, den_if]
  intro h0 h1 h2
  all_goals first
    | omega
    | (repeat' (first | split at h0 | split at h1 | split at h2)
       all_goals omega)
def c33 : List E := [nt q41, q66, q73]
theorem c33_no (ρ : Env) : chain ρ False c33 := by
  have w0 := u8_range (ρ.v 0)
  have w1 := u8_range (ρ.v 1)
  simp only [c33, chain, nt, q41, q66, q73, E.prop, den_nn0, den_nn1, den_l, den_v, den_add, den_sub, den_mul, den_emod, den_u8, den_le, den_lt, den_if]
  intro h0 h1 h2
  all_goals first
    | omega
    | (repeat' (first | split at h0 | split at h1 | split at h2)
       all_goals omega)
def c34 : List E := [q46, q47, q82]
theorem c34_no (ρ : Env) : chain ρ False c34 := by
  have w0 := u8_range (ρ.v 0)
  simp only [c34, chain, nt, q46, q47, q82, E.prop, den_nn0, den_nn1, den_l, den_v, den_add, den_sub, den_mul, den_emod, den_u8, den_le, den_lt, den_if]
  intro h0 h1 h2
  all_goals first
    | omega
    | (repeat' (first | split at h0 | split at h1 | split at h2)
       all_goals omega)
def c35 : List E := [nt q31, q24, q82]
theorem c35_no (ρ : Env) : chain ρ False c35 := by
  have w0 := u8_range (ρ.v 0)
  have w1 := u8_range (ρ.v 1)
  simp only [c35, chain, nt, q24, q31, q82, E.prop, den_nn0, den_nn1, den_l, den_v, den_add, den_sub, den_mul, den_emod, den_u8, den_le, den_lt, den_if]
  intro h0 h1 h2
  all_goals first
    | omega
    | (repeat' (first | split at h0 | split at h1 | split at h2)
       all_goals omega)
def c36 : List E := [q63, q64, q82]
theorem c36_no (ρ : Env) : chain ρ False c36 := by
  have w0 := u8_range (ρ.v 0)
  simp only [c36, chain, nt, q63, q64, q82, E.prop, den_nn0, den_nn1, den_l, den_v, den_add, den_sub, den_mul, den_emod, den_u8, den_le, den_lt, den_if]
  intro h0 h1 h2
  all_goals first
    | omega
    | (repeat' (first | split at h0 | split at h1 | split at h2)
       all_goals omega)
def c37 : List E := [q82, q85, q86]
theorem c37_no (ρ : Env) : chain ρ False c37 := by
  have w0 := u8_range (ρ.v 0)
  simp only [c37, chain, nt, q82, q85, q86, E.prop, den_nn0, den_nn1, den_l, den_v, den_add, den_sub, den_mul, den_emod, den_u8, den_le, den_lt, den_if]
  intro h0 h1 h2
  all_goals first
    | omega
    | (repeat' (first | split at h0 | split at h1 | split at h2)
       all_goals omega)
end Go.Proofs.Ytjgobpmhdeancaa.ClTablePutsB
