/- The ways of the code through numbers, and that the code takes no other. No condition. -/
import Derived.Test.YtjgobpmhdeancaaFns
import Derived.Test.YtjgobpmhdeancaaHs
import Derived.KernelRfl
namespace Go.Proofs.Ytjgobpmhdeancaa.RunTableForms
open Go Go.Sx 

def nt (e : E) : E := .un .bnot e
def q0 : E := (.bin .eq (.ite (.bin .and (.bin .le (.bin .emod (.var 3) (.lit 16)) (.var 7)) (.bin .lt (.var 7) (.bin .add (.bin .emod (.var 3) (.lit 16)) (.lit 1)))) (.lit 7) (.ite (.bin .and (.bin .le (.bin .add (.bin .emod (.var 3) (.lit 16)) (.lit 1)) (.var 7)) (.bin .lt (.var 7) (.bin .add (.bin .emod (.var 3) (.lit 16)) (.lit 2)))) (.lit 8) (.ite (.bin .and (.bin .le (.bin .emod (.var 2) (.lit 16)) (.var 7)) (.bin .lt (.var 7) (.bin .add (.bin .emod (.var 2) (.lit 16)) (.lit 1)))) (.lit 1) (.ite (.bin .and (.bin .le (.bin .add (.bin .emod (.var 2) (.lit 16)) (.lit 1)) (.var 7)) (.bin .lt (.var 7) (.bin .add (.bin .emod (.var 2) (.lit 16)) (.lit 2)))) (.lit 2) (.ite (.bin .and (.bin .le (.bin .add (.bin .emod (.var 2) (.lit 16)) (.lit 2)) (.var 7)) (.bin .lt (.var 7) (.bin .add (.bin .emod (.var 2) (.lit 16)) (.lit 3)))) (.lit 3) (.lit (-1))))))) (.lit (-1)))
def q1 : E := (.bin .lt (.var 7) (.bin .add (.bin .emod (.var 3) (.lit 16)) (.lit 2)))
def q2 : E := (.bin .le (.bin .emod (.var 3) (.lit 16)) (.var 7))
def q3 : E := (.bin .lt (.var 7) (.bin .add (.bin .emod (.var 2) (.lit 16)) (.lit 3)))
def q4 : E := (.bin .le (.bin .emod (.var 2) (.lit 16)) (.var 7))
def q5 : E := (.bin .lt (.var 7) (.lit 20))
def q6 : E := (.bin .le (.lit 0) (.var 7))
def q7 : E := (.bin .le (.var 7) (.lit 20))
def q8 : E := (.bin .le (.lit 20) (.var 6))
def q9 : E := (.bin .le (.lit 1) (.var 6))
def q10 : E := (.bin .le (.var 6) (.lit 20))
def q11 : E := (.bin .lt (.var 0) (.lit 0))
def q12 : E := (.bin .le (.lit 3) (.var 5))
def q13 : E := (.bin .le (.lit 3) (.var 4))
def q14 : E := (.bin .le (.lit 1) (.var 4))
def q15 : E := (.bin .le (.var 4) (.lit 3))
def q16 : E := (.bin .eq (.ite (.bin .and (.bin .le (.bin .emod (.var 3) (.lit 16)) (.var 7)) (.bin .lt (.var 7) (.bin .add (.bin .emod (.var 3) (.lit 16)) (.lit 1)))) (.lit 7) (.ite (.bin .and (.bin .le (.bin .add (.bin .emod (.var 3) (.lit 16)) (.lit 1)) (.var 7)) (.bin .lt (.var 7) (.bin .add (.bin .emod (.var 3) (.lit 16)) (.lit 2)))) (.lit 8) (.ite (.bin .and (.bin .le (.bin .emod (.var 2) (.lit 16)) (.var 7)) (.bin .lt (.var 7) (.bin .add (.bin .emod (.var 2) (.lit 16)) (.lit 1)))) (.lit 1) (.ite (.bin .and (.bin .le (.bin .add (.bin .emod (.var 2) (.lit 16)) (.lit 1)) (.var 7)) (.bin .lt (.var 7) (.bin .add (.bin .emod (.var 2) (.lit 16)) (.lit 2)))) (.lit 2) (.ite (.bin .and (.bin .le (.bin .add (.bin .emod (.var 2) (.lit 16)) (.lit 2)) (.var 7)) (.bin .lt (.var 7) (.bin .add (.bin .emod (.var 2) (.lit 16)) (.lit 3)))) (.lit 3) (.lit (-1))))))) (.bin .add (.bin .sub (.var 7) (.bin .emod (.var 3) (.lit 16))) (.lit 7)))
def q17 : E := (.bin .eq (.ite (.bin .and (.bin .le (.bin .emod (.var 2) (.lit 16)) (.var 7)) (.bin .lt (.var 7) (.bin .add (.bin .emod (.var 2) (.lit 16)) (.lit 1)))) (.lit 1) (.ite (.bin .and (.bin .le (.bin .add (.bin .emod (.var 2) (.lit 16)) (.lit 1)) (.var 7)) (.bin .lt (.var 7) (.bin .add (.bin .emod (.var 2) (.lit 16)) (.lit 2)))) (.lit 2) (.ite (.bin .and (.bin .le (.bin .add (.bin .emod (.var 2) (.lit 16)) (.lit 2)) (.var 7)) (.bin .lt (.var 7) (.bin .add (.bin .emod (.var 2) (.lit 16)) (.lit 3)))) (.lit 3) (.lit (-1))))) (.lit (-1)))
def q18 : E := (.bin .le (.bin .add (.bin .emod (.var 3) (.lit 16)) (.lit 2)) (.var 7))
def q19 : E := (.bin .eq (.ite (.bin .and (.bin .le (.bin .emod (.var 2) (.lit 16)) (.var 7)) (.bin .lt (.var 7) (.bin .add (.bin .emod (.var 2) (.lit 16)) (.lit 1)))) (.lit 1) (.ite (.bin .and (.bin .le (.bin .add (.bin .emod (.var 2) (.lit 16)) (.lit 1)) (.var 7)) (.bin .lt (.var 7) (.bin .add (.bin .emod (.var 2) (.lit 16)) (.lit 2)))) (.lit 2) (.ite (.bin .and (.bin .le (.bin .add (.bin .emod (.var 2) (.lit 16)) (.lit 2)) (.var 7)) (.bin .lt (.var 7) (.bin .add (.bin .emod (.var 2) (.lit 16)) (.lit 3)))) (.lit 3) (.lit (-1))))) (.bin .add (.bin .sub (.var 7) (.bin .emod (.var 2) (.lit 16))) (.lit 1)))
def q20 : E := (.bin .lt (.var 7) (.bin .emod (.var 3) (.lit 16)))
def q21 : E := (.bin .eq (.ite (.bin .and (.bin .le (.bin .emod (.var 3) (.lit 16)) (.var 7)) (.bin .lt (.var 7) (.bin .add (.bin .emod (.var 3) (.lit 16)) (.lit 1)))) (.lit 7) (.ite (.bin .and (.bin .le (.bin .add (.bin .emod (.var 3) (.lit 16)) (.lit 1)) (.var 7)) (.bin .lt (.var 7) (.bin .add (.bin .emod (.var 3) (.lit 16)) (.lit 2)))) (.lit 8) (.lit (-1)))) (.lit (-1)))
def q22 : E := (.bin .le (.bin .add (.bin .emod (.var 2) (.lit 16)) (.lit 3)) (.var 7))
def q23 : E := (.bin .eq (.ite (.bin .and (.bin .le (.bin .emod (.var 3) (.lit 16)) (.var 7)) (.bin .lt (.var 7) (.bin .add (.bin .emod (.var 3) (.lit 16)) (.lit 1)))) (.lit 7) (.ite (.bin .and (.bin .le (.bin .add (.bin .emod (.var 3) (.lit 16)) (.lit 1)) (.var 7)) (.bin .lt (.var 7) (.bin .add (.bin .emod (.var 3) (.lit 16)) (.lit 2)))) (.lit 8) (.lit (-1)))) (.bin .add (.bin .sub (.var 7) (.bin .emod (.var 3) (.lit 16))) (.lit 7)))
def q24 : E := (.bin .lt (.var 7) (.bin .emod (.var 2) (.lit 16)))
def q25 : E := (.bin .le (.lit 20) (.var 7))
def q26 : E := (.bin .lt (.lit 1024) (.var 0))
def q27 : E := (.bin .le (.lit 0) (.var 0))
def q28 : E := (.bin .lt (.var 1) (.var 0))
def q29 : E := (.bin .eq (.var 1) (.lit (-1)))
def q30 : E := (.bin .le (.var 0) (.lit 1024))
def q31 : E := (.bin .eq (.un .bnot (.un .bnot (.lit 0))) (.bin .le (.var 1) (.lit 4294967295)))
def q32 : E := (.bin .lt (.lit 4294967295) (.var 1))
def q33 : E := (.bin .le (.var 0) (.var 1))
def q34 : E := (.bin .eq (.un .bnot (.un .bnot (.lit 1))) (.bin .le (.var 1) (.lit 4294967295)))
def q35 : E := (.bin .le (.bin .mul (.var 0) (.lit 1)) (.var 6))
def q36 : E := (.bin .le (.var 6) (.bin .mul (.var 0) (.lit 1)))
def q37 : E := (.bin .le (.lit 1) (.bin .mul (.var 0) (.lit 1)))
def q38 : E := (.bin .le (.var 1) (.lit 4294967295))
def q39 : E := (.bin .eq (.ite (.bin .and (.bin .le (.bin .emod (.var 3) (.lit 16)) (.var 8)) (.bin .lt (.var 8) (.bin .add (.bin .emod (.var 3) (.lit 16)) (.lit 1)))) (.lit 7) (.ite (.bin .and (.bin .le (.bin .add (.bin .emod (.var 3) (.lit 16)) (.lit 1)) (.var 8)) (.bin .lt (.var 8) (.bin .add (.bin .emod (.var 3) (.lit 16)) (.lit 2)))) (.lit 8) (.ite (.bin .and (.bin .le (.bin .emod (.var 2) (.lit 16)) (.var 8)) (.bin .lt (.var 8) (.bin .add (.bin .emod (.var 2) (.lit 16)) (.lit 1)))) (.lit 1) (.ite (.bin .and (.bin .le (.bin .add (.bin .emod (.var 2) (.lit 16)) (.lit 1)) (.var 8)) (.bin .lt (.var 8) (.bin .add (.bin .emod (.var 2) (.lit 16)) (.lit 2)))) (.lit 2) (.ite (.bin .and (.bin .le (.bin .add (.bin .emod (.var 2) (.lit 16)) (.lit 2)) (.var 8)) (.bin .lt (.var 8) (.bin .add (.bin .emod (.var 2) (.lit 16)) (.lit 3)))) (.lit 3) (.lit (-1))))))) (.lit (-1)))
def q40 : E := (.bin .lt (.var 8) (.bin .add (.bin .emod (.var 3) (.lit 16)) (.lit 2)))
def q41 : E := (.bin .le (.bin .emod (.var 3) (.lit 16)) (.var 8))
def q42 : E := (.bin .lt (.var 8) (.bin .add (.bin .emod (.var 2) (.lit 16)) (.lit 3)))
def q43 : E := (.bin .le (.bin .emod (.var 2) (.lit 16)) (.var 8))
def q44 : E := (.bin .lt (.var 8) (.lit 20))
def q45 : E := (.bin .le (.lit 0) (.var 8))
def q46 : E := (.bin .le (.var 8) (.lit 20))
def q47 : E := (.bin .le (.lit 1) (.var 7))
def q48 : E := (.bin .eq (.ite (.bin .and (.bin .le (.bin .emod (.var 3) (.lit 16)) (.var 8)) (.bin .lt (.var 8) (.bin .add (.bin .emod (.var 3) (.lit 16)) (.lit 1)))) (.lit 7) (.ite (.bin .and (.bin .le (.bin .add (.bin .emod (.var 3) (.lit 16)) (.lit 1)) (.var 8)) (.bin .lt (.var 8) (.bin .add (.bin .emod (.var 3) (.lit 16)) (.lit 2)))) (.lit 8) (.ite (.bin .and (.bin .le (.bin .emod (.var 2) (.lit 16)) (.var 8)) (.bin .lt (.var 8) (.bin .add (.bin .emod (.var 2) (.lit 16)) (.lit 1)))) (.lit 1) (.ite (.bin .and (.bin .le (.bin .add (.bin .emod (.var 2) (.lit 16)) (.lit 1)) (.var 8)) (.bin .lt (.var 8) (.bin .add (.bin .emod (.var 2) (.lit 16)) (.lit 2)))) (.lit 2) (.ite (.bin .and (.bin .le (.bin .add (.bin .emod (.var 2) (.lit 16)) (.lit 2)) (.var 8)) (.bin .lt (.var 8) (.bin .add (.bin .emod (.var 2) (.lit 16)) (.lit 3)))) (.lit 3) (.lit (-1))))))) (.bin .add (.bin .sub (.var 8) (.bin .emod (.var 3) (.lit 16))) (.lit 7)))
def q49 : E := (.bin .eq (.ite (.bin .and (.bin .le (.bin .emod (.var 2) (.lit 16)) (.var 8)) (.bin .lt (.var 8) (.bin .add (.bin .emod (.var 2) (.lit 16)) (.lit 1)))) (.lit 1) (.ite (.bin .and (.bin .le (.bin .add (.bin .emod (.var 2) (.lit 16)) (.lit 1)) (.var 8)) (.bin .lt (.var 8) (.bin .add (.bin .emod (.var 2) (.lit 16)) (.lit 2)))) (.lit 2) (.ite (.bin .and (.bin .le (.bin .add (.bin .emod (.var 2) (.lit 16)) (.lit 2)) (.var 8)) (.bin .lt (.var 8) (.bin .add (.bin .emod (.var 2) (.lit 16)) (.lit 3)))) (.lit 3) (.lit (-1))))) (.lit (-1)))
def q50 : E := (.bin .le (.bin .add (.bin .emod (.var 3) (.lit 16)) (.lit 2)) (.var 8))
def q51 : E := (.bin .eq (.ite (.bin .and (.bin .le (.bin .emod (.var 2) (.lit 16)) (.var 8)) (.bin .lt (.var 8) (.bin .add (.bin .emod (.var 2) (.lit 16)) (.lit 1)))) (.lit 1) (.ite (.bin .and (.bin .le (.bin .add (.bin .emod (.var 2) (.lit 16)) (.lit 1)) (.var 8)) (.bin .lt (.var 8) (.bin .add (.bin .emod (.var 2) (.lit 16)) (.lit 2)))) (.lit 2) (.ite (.bin .and (.bin .le (.bin .add (.bin .emod (.var 2) (.lit 16)) (.lit 2)) (.var 8)) (.bin .lt (.var 8) (.bin .add (.bin .emod (.var 2) (.lit 16)) (.lit 3)))) (.lit 3) (.lit (-1))))) (.bin .add (.bin .sub (.var 8) (.bin .emod (.var 2) (.lit 16))) (.lit 1)))
def q52 : E := (.bin .lt (.var 8) (.bin .emod (.var 3) (.lit 16)))
def q53 : E := (.bin .eq (.ite (.bin .and (.bin .le (.bin .emod (.var 3) (.lit 16)) (.var 8)) (.bin .lt (.var 8) (.bin .add (.bin .emod (.var 3) (.lit 16)) (.lit 1)))) (.lit 7) (.ite (.bin .and (.bin .le (.bin .add (.bin .emod (.var 3) (.lit 16)) (.lit 1)) (.var 8)) (.bin .lt (.var 8) (.bin .add (.bin .emod (.var 3) (.lit 16)) (.lit 2)))) (.lit 8) (.lit (-1)))) (.lit (-1)))
def q54 : E := (.bin .le (.bin .add (.bin .emod (.var 2) (.lit 16)) (.lit 3)) (.var 8))
def q55 : E := (.bin .eq (.ite (.bin .and (.bin .le (.bin .emod (.var 3) (.lit 16)) (.var 8)) (.bin .lt (.var 8) (.bin .add (.bin .emod (.var 3) (.lit 16)) (.lit 1)))) (.lit 7) (.ite (.bin .and (.bin .le (.bin .add (.bin .emod (.var 3) (.lit 16)) (.lit 1)) (.var 8)) (.bin .lt (.var 8) (.bin .add (.bin .emod (.var 3) (.lit 16)) (.lit 2)))) (.lit 8) (.lit (-1)))) (.bin .add (.bin .sub (.var 8) (.bin .emod (.var 3) (.lit 16))) (.lit 7)))
def q56 : E := (.bin .lt (.var 8) (.bin .emod (.var 2) (.lit 16)))
def q57 : E := (.bin .le (.lit 20) (.var 8))
def q58 : E := (.bin .lt (.bin .mul (.var 0) (.lit 1)) (.lit 1))
def lawR : List Leaf := [
  ([q0, q1, q2, q3, q4, q5, q6, q7, q8, q9, q10, q11, q12, q13, q14, q15], .bool (.lit 0)),
  ([nt q16, nt q0, q1, q2, q3, q4, q5, q6, q7, q8, q9, q10, q11, q12, q13, q14, q15], .bool (.lit 0)),
  ([q17, q18, q2, q3, q4, q5, q6, q7, q8, q9, q10, q11, q12, q13, q14, q15], .bool (.lit 0)),
  ([nt q19, nt q17, q18, q2, q3, q4, q5, q6, q7, q8, q9, q10, q11, q12, q13, q14, q15], .bool (.lit 0)),
  ([q17, q20, q3, q4, q5, q6, q7, q8, q9, q10, q11, q12, q13, q14, q15], .bool (.lit 0)),
  ([nt q19, nt q17, q20, q3, q4, q5, q6, q7, q8, q9, q10, q11, q12, q13, q14, q15], .bool (.lit 0)),
  ([q21, q1, q2, q22, q4, q5, q6, q7, q8, q9, q10, q11, q12, q13, q14, q15], .bool (.lit 0)),
  ([nt q23, nt q21, q1, q2, q22, q4, q5, q6, q7, q8, q9, q10, q11, q12, q13, q14, q15], .bool (.lit 0)),
  ([q21, q1, q2, q24, q5, q6, q7, q8, q9, q10, q11, q12, q13, q14, q15], .bool (.lit 0)),
  ([nt q23, nt q21, q1, q2, q24, q5, q6, q7, q8, q9, q10, q11, q12, q13, q14, q15], .bool (.lit 0)),
  ([q25, q6, q7, q8, q9, q10, q11, q12, q13, q14, q15], .bool (.lit 1)),
  ([q0, q1, q2, q3, q4, q5, q6, q7, q8, q9, q10, q26, q27, q12, q13, q14, q15], .bool (.lit 0)),
  ([nt q16, nt q0, q1, q2, q3, q4, q5, q6, q7, q8, q9, q10, q26, q27, q12, q13, q14, q15], .bool (.lit 0)),
  ([q17, q18, q2, q3, q4, q5, q6, q7, q8, q9, q10, q26, q27, q12, q13, q14, q15], .bool (.lit 0)),
  ([nt q19, nt q17, q18, q2, q3, q4, q5, q6, q7, q8, q9, q10, q26, q27, q12, q13, q14, q15], .bool (.lit 0)),
  ([q17, q20, q3, q4, q5, q6, q7, q8, q9, q10, q26, q27, q12, q13, q14, q15], .bool (.lit 0)),
  ([nt q19, nt q17, q20, q3, q4, q5, q6, q7, q8, q9, q10, q26, q27, q12, q13, q14, q15], .bool (.lit 0)),
  ([q21, q1, q2, q22, q4, q5, q6, q7, q8, q9, q10, q26, q27, q12, q13, q14, q15], .bool (.lit 0)),
  ([nt q23, nt q21, q1, q2, q22, q4, q5, q6, q7, q8, q9, q10, q26, q27, q12, q13, q14, q15], .bool (.lit 0)),
  ([q21, q1, q2, q24, q5, q6, q7, q8, q9, q10, q26, q27, q12, q13, q14, q15], .bool (.lit 0)),
  ([nt q23, nt q21, q1, q2, q24, q5, q6, q7, q8, q9, q10, q26, q27, q12, q13, q14, q15], .bool (.lit 0)),
  ([q25, q6, q7, q8, q9, q10, q26, q27, q12, q13, q14, q15], .bool (.lit 1)),
  ([q0, q1, q2, q3, q4, q5, q6, q7, q8, q9, q10, q28, nt q29, q30, q27, q12, q13, q14, q15], .bool (.lit 0)),
  ([nt q16, nt q0, q1, q2, q3, q4, q5, q6, q7, q8, q9, q10, q28, nt q29, q30, q27, q12, q13, q14, q15], .bool (.lit 0)),
  ([q17, q18, q2, q3, q4, q5, q6, q7, q8, q9, q10, q28, nt q29, q30, q27, q12, q13, q14, q15], .bool (.lit 0)),
  ([nt q19, nt q17, q18, q2, q3, q4, q5, q6, q7, q8, q9, q10, q28, nt q29, q30, q27, q12, q13, q14, q15], .bool (.lit 0)),
  ([q17, q20, q3, q4, q5, q6, q7, q8, q9, q10, q28, nt q29, q30, q27, q12, q13, q14, q15], .bool (.lit 0)),
  ([nt q19, nt q17, q20, q3, q4, q5, q6, q7, q8, q9, q10, q28, nt q29, q30, q27, q12, q13, q14, q15], .bool (.lit 0)),
  ([q21, q1, q2, q22, q4, q5, q6, q7, q8, q9, q10, q28, nt q29, q30, q27, q12, q13, q14, q15], .bool (.lit 0)),
  ([nt q23, nt q21, q1, q2, q22, q4, q5, q6, q7, q8, q9, q10, q28, nt q29, q30, q27, q12, q13, q14, q15], .bool (.lit 0)),
  ([q21, q1, q2, q24, q5, q6, q7, q8, q9, q10, q28, nt q29, q30, q27, q12, q13, q14, q15], .bool (.lit 0)),
  ([nt q23, nt q21, q1, q2, q24, q5, q6, q7, q8, q9, q10, q28, nt q29, q30, q27, q12, q13, q14, q15], .bool (.lit 0)),
  ([q25, q6, q7, q8, q9, q10, q28, nt q29, q30, q27, q12, q13, q14, q15], .bool (.lit 1)),
  ([nt q31, q32, q33, nt q29, q30, q27, q12, q13, q14, q15], .bool (.lit 0)),
  ([q0, q1, q2, q3, q4, q5, q6, q7, q8, q9, q10, q31, q32, q33, nt q29, q30, q27, q12, q13, q14, q15], .bool (.lit 0)),
  ([nt q16, nt q0, q1, q2, q3, q4, q5, q6, q7, q8, q9, q10, q31, q32, q33, nt q29, q30, q27, q12, q13, q14, q15], .bool (.lit 0)),
  ([q17, q18, q2, q3, q4, q5, q6, q7, q8, q9, q10, q31, q32, q33, nt q29, q30, q27, q12, q13, q14, q15], .bool (.lit 0)),
  ([nt q19, nt q17, q18, q2, q3, q4, q5, q6, q7, q8, q9, q10, q31, q32, q33, nt q29, q30, q27, q12, q13, q14, q15], .bool (.lit 0)),
  ([q17, q20, q3, q4, q5, q6, q7, q8, q9, q10, q31, q32, q33, nt q29, q30, q27, q12, q13, q14, q15], .bool (.lit 0)),
  ([nt q19, nt q17, q20, q3, q4, q5, q6, q7, q8, q9, q10, q31, q32, q33, nt q29, q30, q27, q12, q13, q14, q15], .bool (.lit 0)),
  ([q21, q1, q2, q22, q4, q5, q6, q7, q8, q9, q10, q31, q32, q33, nt q29, q30, q27, q12, q13, q14, q15], .bool (.lit 0)),
  ([nt q23, nt q21, q1, q2, q22, q4, q5, q6, q7, q8, q9, q10, q31, q32, q33, nt q29, q30, q27, q12, q13, q14, q15], .bool (.lit 0)),
  ([q21, q1, q2, q24, q5, q6, q7, q8, q9, q10, q31, q32, q33, nt q29, q30, q27, q12, q13, q14, q15], .bool (.lit 0)),
  ([nt q23, nt q21, q1, q2, q24, q5, q6, q7, q8, q9, q10, q31, q32, q33, nt q29, q30, q27, q12, q13, q14, q15], .bool (.lit 0)),
  ([q25, q6, q7, q8, q9, q10, q31, q32, q33, nt q29, q30, q27, q12, q13, q14, q15], .bool (.lit 1)),
  ([nt q34, q35, q9, q36, q37, q38, q33, nt q29, q30, q27, q12, q13, q14, q15], .bool (.lit 0)),
  ([q39, q40, q41, q42, q43, q44, q45, q46, q25, q47, q7, q34, q35, q9, q36, q37, q38, q33, nt q29, q30, q27, q12, q13, q14, q15], .bool (.lit 0)),
  ([nt q48, nt q39, q40, q41, q42, q43, q44, q45, q46, q25, q47, q7, q34, q35, q9, q36, q37, q38, q33, nt q29, q30, q27, q12, q13, q14, q15], .bool (.lit 0)),
  ([q49, q50, q41, q42, q43, q44, q45, q46, q25, q47, q7, q34, q35, q9, q36, q37, q38, q33, nt q29, q30, q27, q12, q13, q14, q15], .bool (.lit 0)),
  ([nt q51, nt q49, q50, q41, q42, q43, q44, q45, q46, q25, q47, q7, q34, q35, q9, q36, q37, q38, q33, nt q29, q30, q27, q12, q13, q14, q15], .bool (.lit 0)),
  ([q49, q52, q42, q43, q44, q45, q46, q25, q47, q7, q34, q35, q9, q36, q37, q38, q33, nt q29, q30, q27, q12, q13, q14, q15], .bool (.lit 0)),
  ([nt q51, nt q49, q52, q42, q43, q44, q45, q46, q25, q47, q7, q34, q35, q9, q36, q37, q38, q33, nt q29, q30, q27, q12, q13, q14, q15], .bool (.lit 0)),
  ([q53, q40, q41, q54, q43, q44, q45, q46, q25, q47, q7, q34, q35, q9, q36, q37, q38, q33, nt q29, q30, q27, q12, q13, q14, q15], .bool (.lit 0)),
  ([nt q55, nt q53, q40, q41, q54, q43, q44, q45, q46, q25, q47, q7, q34, q35, q9, q36, q37, q38, q33, nt q29, q30, q27, q12, q13, q14, q15], .bool (.lit 0)),
  ([q53, q40, q41, q56, q44, q45, q46, q25, q47, q7, q34, q35, q9, q36, q37, q38, q33, nt q29, q30, q27, q12, q13, q14, q15], .bool (.lit 0)),
  ([nt q55, nt q53, q40, q41, q56, q44, q45, q46, q25, q47, q7, q34, q35, q9, q36, q37, q38, q33, nt q29, q30, q27, q12, q13, q14, q15], .bool (.lit 0)),
  ([q57, q45, q46, q25, q47, q7, q34, q35, q9, q36, q37, q38, q33, nt q29, q30, q27, q12, q13, q14, q15], .bool (.lit 1)),
  ([nt q34, q58, q38, q33, nt q29, q30, q27, q12, q13, q14, q15], .bool (.lit 0)),
  ([q0, q1, q2, q3, q4, q5, q6, q7, q8, q9, q10, q34, q58, q38, q33, nt q29, q30, q27, q12, q13, q14, q15], .bool (.lit 0)),
  ([nt q16, nt q0, q1, q2, q3, q4, q5, q6, q7, q8, q9, q10, q34, q58, q38, q33, nt q29, q30, q27, q12, q13, q14, q15], .bool (.lit 0)),
  ([q17, q18, q2, q3, q4, q5, q6, q7, q8, q9, q10, q34, q58, q38, q33, nt q29, q30, q27, q12, q13, q14, q15], .bool (.lit 0)),
  ([nt q19, nt q17, q18, q2, q3, q4, q5, q6, q7, q8, q9, q10, q34, q58, q38, q33, nt q29, q30, q27, q12, q13, q14, q15], .bool (.lit 0)),
  ([q17, q20, q3, q4, q5, q6, q7, q8, q9, q10, q34, q58, q38, q33, nt q29, q30, q27, q12, q13, q14, q15], .bool (.lit 0)),
  ([nt q19, nt q17, q20, q3, q4, q5, q6, q7, q8, q9, q10, q34, q58, q38, q33, nt q29, q30, q27, q12, q13, q14, q15], .bool (.lit 0)),
  ([q21, q1, q2, q22, q4, q5, q6, q7, q8, q9, q10, q34, q58, q38, q33, nt q29, q30, q27, q12, q13, q14, q15], .bool (.lit 0)),
  ([nt q23, nt q21, q1, q2, q22, q4, q5, q6, q7, q8, q9, q10, q34, q58, q38, q33, nt q29, q30, q27, q12, q13, q14, q15], .bool (.lit 0)),
  ([q21, q1, q2, q24, q5, q6, q7, q8, q9, q10, q34, q58, q38, q33, nt q29, q30, q27, q12, q13, q14, q15], .bool (.lit 0)),
  ([nt q23, nt q21, q1, q2, q24, q5, q6, q7, q8, q9, q10, q34, q58, q38, q33, nt q29, q30, q27, q12, q13, q14, q15], .bool (.lit 0)),
  ([q25, q6, q7, q8, q9, q10, q34, q58, q38, q33, nt q29, q30, q27, q12, q13, q14, q15], .bool (.lit 1)),
  ([q39, q40, q41, q42, q43, q44, q45, q46, q25, q47, q7, q35, q9, q36, q37, q29, q30, q27, q12, q13, q14, q15], .bool (.lit 0)),
  ([nt q48, nt q39, q40, q41, q42, q43, q44, q45, q46, q25, q47, q7, q35, q9, q36, q37, q29, q30, q27, q12, q13, q14, q15], .bool (.lit 0)),
  ([q49, q50, q41, q42, q43, q44, q45, q46, q25, q47, q7, q35, q9, q36, q37, q29, q30, q27, q12, q13, q14, q15], .bool (.lit 0)),
  ([nt q51, nt q49, q50, q41, q42, q43, q44, q45, q46, q25, q47, q7, q35, q9, q36, q37, q29, q30, q27, q12, q13, q14, q15], .bool (.lit 0)),
  ([q49, q52, q42, q43, q44, q45, q46, q25, q47, q7, q35, q9, q36, q37, q29, q30, q27, q12, q13, q14, q15], .bool (.lit 0)),
  ([nt q51, nt q49, q52, q42, q43, q44, q45, q46, q25, q47, q7, q35, q9, q36, q37, q29, q30, q27, q12, q13, q14, q15], .bool (.lit 0)),
  ([q53, q40, q41, q54, q43, q44, q45, q46, q25, q47, q7, q35, q9, q36, q37, q29, q30, q27, q12, q13, q14, q15], .bool (.lit 0)),
  ([nt q55, nt q53, q40, q41, q54, q43, q44, q45, q46, q25, q47, q7, q35, q9, q36, q37, q29, q30, q27, q12, q13, q14, q15], .bool (.lit 0)),
  ([q53, q40, q41, q56, q44, q45, q46, q25, q47, q7, q35, q9, q36, q37, q29, q30, q27, q12, q13, q14, q15], .bool (.lit 0)),
  ([nt q55, nt q53, q40, q41, q56, q44, q45, q46, q25, q47, q7, q35, q9, q36, q37, q29, q30, q27, q12, q13, q14, q15], .bool (.lit 0)),
  ([q57, q45, q46, q25, q47, q7, q35, q9, q36, q37, q29, q30, q27, q12, q13, q14, q15], .bool (.lit 1)),
  ([q0, q1, q2, q3, q4, q5, q6, q7, q8, q9, q10, q58, q29, q30, q27, q12, q13, q14, q15], .bool (.lit 0)),
  ([nt q16, nt q0, q1, q2, q3, q4, q5, q6, q7, q8, q9, q10, q58, q29, q30, q27, q12, q13, q14, q15], .bool (.lit 0)),
  ([q17, q18, q2, q3, q4, q5, q6, q7, q8, q9, q10, q58, q29, q30, q27, q12, q13, q14, q15], .bool (.lit 0)),
  ([nt q19, nt q17, q18, q2, q3, q4, q5, q6, q7, q8, q9, q10, q58, q29, q30, q27, q12, q13, q14, q15], .bool (.lit 0)),
  ([q17, q20, q3, q4, q5, q6, q7, q8, q9, q10, q58, q29, q30, q27, q12, q13, q14, q15], .bool (.lit 0)),
  ([nt q19, nt q17, q20, q3, q4, q5, q6, q7, q8, q9, q10, q58, q29, q30, q27, q12, q13, q14, q15], .bool (.lit 0)),
  ([q21, q1, q2, q22, q4, q5, q6, q7, q8, q9, q10, q58, q29, q30, q27, q12, q13, q14, q15], .bool (.lit 0)),
  ([nt q23, nt q21, q1, q2, q22, q4, q5, q6, q7, q8, q9, q10, q58, q29, q30, q27, q12, q13, q14, q15], .bool (.lit 0)),
  ([q21, q1, q2, q24, q5, q6, q7, q8, q9, q10, q58, q29, q30, q27, q12, q13, q14, q15], .bool (.lit 0)),
  ([nt q23, nt q21, q1, q2, q24, q5, q6, q7, q8, q9, q10, q58, q29, q30, q27, q12, q13, q14, q15], .bool (.lit 0)),
  ([q25, q6, q7, q8, q9, q10, q58, q29, q30, q27, q12, q13, q14, q15], .bool (.lit 1))]
set_option maxRecDepth 100000 in
theorem lawRan : runOf Try.prog noOracle looped (bodies fns) [] 4000 11 [some .i64, some .i64, some .i64, some .i64] [] = some lawR := by kernel_rfl
end Go.Proofs.Ytjgobpmhdeancaa.RunTableForms
