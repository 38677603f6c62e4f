/- The ways of the code through numbers, and that the code takes no other. No condition. -/
import Derived.Test.YtjgobpmhdeancaaFns
import Derived.Test.YtjgobpmhdeancaaHs
import Derived.KernelRfl
namespace Go.Proofs.Ytjgobpmhdeancaa.RunTablePutsA
open Go Go.Sx 

def nt (e : E) : E := .un .bnot e
def q0 : E := (.bin .lt (.var 9) (.bin .add (.un (.wrap .u8) (.var 1)) (.bin .emod (.var 2) (.lit 16))))
def q1 : E := (.bin .le (.un (.wrap .u8) (.var 1)) (.var 9))
def q2 : E := (.bin .le (.bin .add (.un (.wrap .u8) (.var 1)) (.bin .emod (.var 2) (.lit 16))) (.un (.wrap .u8) (.var 0)))
def q3 : E := (.bin .le (.bin .mul (.un (.wrap .u8) (.var 0)) (.lit 1)) (.var 9))
def q4 : E := (.bin .lt (.var 9) (.un (.wrap .u8) (.var 0)))
def q5 : E := (.bin .le (.lit 0) (.var 9))
def q6 : E := (.bin .le (.var 9) (.un (.wrap .u8) (.var 0)))
def q7 : E := (.bin .lt (.bin .mul (.un (.wrap .u8) (.var 0)) (.lit 1)) (.un (.wrap .u8) (.var 1)))
def q8 : E := (.bin .le (.lit 3) (.var 8))
def q9 : E := (.bin .lt (.lit 2) (.bin .emod (.var 2) (.lit 16)))
def q10 : E := (.bin .le (.lit 2) (.var 7))
def q11 : E := (.bin .lt (.lit 1) (.bin .emod (.var 2) (.lit 16)))
def q12 : E := (.bin .le (.lit 1) (.var 6))
def q13 : E := (.bin .lt (.lit 0) (.bin .emod (.var 2) (.lit 16)))
def q14 : E := (.bin .le (.bin .mul (.un (.wrap .u8) (.var 0)) (.lit 1)) (.var 5))
def q15 : E := (.bin .le (.lit 1) (.var 5))
def q16 : E := (.bin .le (.var 5) (.bin .mul (.un (.wrap .u8) (.var 0)) (.lit 1)))
def q17 : E := (.bin .le (.lit 1) (.bin .mul (.un (.wrap .u8) (.var 0)) (.lit 1)))
def q18 : E := (.bin .le (.lit 3) (.var 4))
def q19 : E := (.bin .le (.lit 3) (.var 3))
def q20 : E := (.bin .le (.lit 1) (.var 3))
def q21 : E := (.bin .le (.var 3) (.lit 3))
def q22 : E := (.bin .le (.lit 0) (.bin .emod (.var 2) (.lit 16)))
def q23 : E := (.bin .le (.bin .emod (.var 2) (.lit 16)) (.lit 3))
def q24 : E := (.bin .le (.bin .add (.un (.wrap .u8) (.var 1)) (.bin .emod (.var 2) (.lit 16))) (.var 9))
def q25 : E := (.bin .lt (.var 9) (.un (.wrap .u8) (.var 1)))
def q26 : E := (.bin .lt (.un (.wrap .u8) (.var 0)) (.bin .add (.un (.wrap .u8) (.var 1)) (.bin .emod (.var 2) (.lit 16))))
def q27 : E := (.bin .eq (.ite (.bin .and (.bin .le (.lit 0) (.var 9)) (.bin .lt (.var 9) (.var 5))) (.lit (-1)) (.lit 0)) (.lit (-1)))
def q28 : E := (.bin .lt (.var 9) (.bin .mul (.un (.wrap .u8) (.var 0)) (.lit 1)))
def q29 : E := (.bin .eq (.un .bnot (.un .bnot (.lit 0))) (.bin .le (.bin .add (.un (.wrap .u8) (.var 1)) (.bin .emod (.var 2) (.lit 16))) (.un (.wrap .u8) (.var 0))))
def q30 : E := (.bin .le (.bin .mul (.un (.wrap .u8) (.var 0)) (.lit 1)) (.un (.wrap .u8) (.var 0)))
def q31 : E := (.bin .le (.un (.wrap .u8) (.var 0)) (.var 9))
def q32 : E := (.bin .eq (.ite (.bin .and (.bin .le (.lit 0) (.un (.wrap .u8) (.var 0))) (.bin .lt (.un (.wrap .u8) (.var 0)) (.var 5))) (.lit (-1)) (.lit 0)) (.lit (-1)))
def q33 : E := (.bin .lt (.un (.wrap .u8) (.var 0)) (.bin .mul (.un (.wrap .u8) (.var 0)) (.lit 1)))
def q34 : E := (.bin .lt (.bin .sub (.bin .mul (.un (.wrap .u8) (.var 0)) (.lit 1)) (.un (.wrap .u8) (.var 1))) (.lit 3))
def q35 : E := (.bin .le (.un (.wrap .u8) (.var 1)) (.bin .mul (.un (.wrap .u8) (.var 0)) (.lit 1)))
def q36 : E := (.bin .le (.lit 3) (.bin .sub (.bin .mul (.un (.wrap .u8) (.var 0)) (.lit 1)) (.un (.wrap .u8) (.var 1))))
def q37 : E := (.bin .eq (.ite (.bin .and (.bin .le (.bin .sub (.lit 2) (.bin .sub (.lit 0) (.un (.wrap .u8) (.var 1)))) (.var 9)) (.bin .lt (.var 9) (.bin .sub (.lit 3) (.bin .sub (.lit 0) (.un (.wrap .u8) (.var 1)))))) (.lit 102) (.ite (.bin .and (.bin .le (.bin .sub (.lit 1) (.bin .sub (.lit 0) (.un (.wrap .u8) (.var 1)))) (.var 9)) (.bin .lt (.var 9) (.bin .sub (.lit 2) (.bin .sub (.lit 0) (.un (.wrap .u8) (.var 1)))))) (.lit 101) (.ite (.bin .and (.bin .le (.bin .sub (.lit 0) (.bin .sub (.lit 0) (.un (.wrap .u8) (.var 1)))) (.var 9)) (.bin .lt (.var 9) (.bin .sub (.lit 1) (.bin .sub (.lit 0) (.un (.wrap .u8) (.var 1)))))) (.lit 100) (.ite (.bin .and (.bin .le (.un (.wrap .u8) (.var 1)) (.var 9)) (.bin .lt (.var 9) (.bin .add (.un (.wrap .u8) (.var 1)) (.lit 3)))) (.lit 0) (.ite (.bin .and (.bin .le (.lit 0) (.var 9)) (.bin .lt (.var 9) (.var 5))) (.lit (-1)) (.lit 0)))))) (.lit (-1)))
def q38 : E := (.bin .eq (.ite (.bin .and (.bin .le (.bin .sub (.lit 2) (.bin .sub (.lit 0) (.un (.wrap .u8) (.var 1)))) (.var 9)) (.bin .lt (.var 9) (.bin .sub (.lit 3) (.bin .sub (.lit 0) (.un (.wrap .u8) (.var 1)))))) (.lit 102) (.ite (.bin .and (.bin .le (.bin .sub (.lit 1) (.bin .sub (.lit 0) (.un (.wrap .u8) (.var 1)))) (.var 9)) (.bin .lt (.var 9) (.bin .sub (.lit 2) (.bin .sub (.lit 0) (.un (.wrap .u8) (.var 1)))))) (.lit 101) (.ite (.bin .and (.bin .le (.bin .sub (.lit 0) (.bin .sub (.lit 0) (.un (.wrap .u8) (.var 1)))) (.var 9)) (.bin .lt (.var 9) (.bin .sub (.lit 1) (.bin .sub (.lit 0) (.un (.wrap .u8) (.var 1)))))) (.lit 100) (.ite (.bin .and (.bin .le (.un (.wrap .u8) (.var 1)) (.var 9)) (.bin .lt (.var 9) (.bin .add (.un (.wrap .u8) (.var 1)) (.lit 3)))) (.lit 0) (.ite (.bin .and (.bin .le (.lit 0) (.var 9)) (.bin .lt (.var 9) (.var 5))) (.lit (-1)) (.lit 0)))))) (.bin .add (.bin .sub (.var 9) (.un (.wrap .u8) (.var 1))) (.lit 100)))
def q39 : E := (.bin .eq (.un .bnot (.un .bnot (.lit 1))) (.bin .le (.bin .add (.un (.wrap .u8) (.var 1)) (.bin .emod (.var 2) (.lit 16))) (.un (.wrap .u8) (.var 0))))
def q40 : E := (.bin .eq (.ite (.bin .and (.bin .le (.bin .sub (.lit 2) (.bin .sub (.lit 0) (.un (.wrap .u8) (.var 1)))) (.un (.wrap .u8) (.var 0))) (.bin .lt (.un (.wrap .u8) (.var 0)) (.bin .sub (.lit 3) (.bin .sub (.lit 0) (.un (.wrap .u8) (.var 1)))))) (.lit 102) (.ite (.bin .and (.bin .le (.bin .sub (.lit 1) (.bin .sub (.lit 0) (.un (.wrap .u8) (.var 1)))) (.un (.wrap .u8) (.var 0))) (.bin .lt (.un (.wrap .u8) (.var 0)) (.bin .sub (.lit 2) (.bin .sub (.lit 0) (.un (.wrap .u8) (.var 1)))))) (.lit 101) (.ite (.bin .and (.bin .le (.bin .sub (.lit 0) (.bin .sub (.lit 0) (.un (.wrap .u8) (.var 1)))) (.un (.wrap .u8) (.var 0))) (.bin .lt (.un (.wrap .u8) (.var 0)) (.bin .sub (.lit 1) (.bin .sub (.lit 0) (.un (.wrap .u8) (.var 1)))))) (.lit 100) (.ite (.bin .and (.bin .le (.un (.wrap .u8) (.var 1)) (.un (.wrap .u8) (.var 0))) (.bin .lt (.un (.wrap .u8) (.var 0)) (.bin .add (.un (.wrap .u8) (.var 1)) (.lit 3)))) (.lit 0) (.ite (.bin .and (.bin .le (.lit 0) (.un (.wrap .u8) (.var 0))) (.bin .lt (.un (.wrap .u8) (.var 0)) (.var 5))) (.lit (-1)) (.lit 0)))))) (.lit (-1)))
def q41 : E := (.bin .lt (.var 8) (.bin .add (.un (.wrap .u8) (.var 1)) (.bin .emod (.var 2) (.lit 16))))
def q42 : E := (.bin .le (.un (.wrap .u8) (.var 1)) (.var 8))
def q43 : E := (.bin .le (.bin .mul (.un (.wrap .u8) (.var 0)) (.lit 1)) (.var 8))
def q44 : E := (.bin .lt (.var 8) (.un (.wrap .u8) (.var 0)))
def q45 : E := (.bin .le (.lit 0) (.var 8))
def q46 : E := (.bin .le (.var 8) (.un (.wrap .u8) (.var 0)))
def q47 : E := (.bin .le (.bin .emod (.var 2) (.lit 16)) (.lit 2))
def q48 : E := (.bin .le (.bin .add (.un (.wrap .u8) (.var 1)) (.bin .emod (.var 2) (.lit 16))) (.var 8))
def q49 : E := (.bin .lt (.var 8) (.un (.wrap .u8) (.var 1)))
def q50 : E := (.bin .eq (.ite (.bin .and (.bin .le (.lit 0) (.var 8)) (.bin .lt (.var 8) (.var 5))) (.lit (-1)) (.lit 0)) (.lit (-1)))
def q51 : E := (.bin .lt (.var 8) (.bin .mul (.un (.wrap .u8) (.var 0)) (.lit 1)))
def q52 : E := (.bin .le (.un (.wrap .u8) (.var 0)) (.var 8))
def q53 : E := (.bin .lt (.bin .sub (.bin .mul (.un (.wrap .u8) (.var 0)) (.lit 1)) (.un (.wrap .u8) (.var 1))) (.lit 2))
def q54 : E := (.bin .le (.lit 2) (.bin .sub (.bin .mul (.un (.wrap .u8) (.var 0)) (.lit 1)) (.un (.wrap .u8) (.var 1))))
def q55 : E := (.bin .eq (.ite (.bin .and (.bin .le (.bin .sub (.lit 1) (.bin .sub (.lit 0) (.un (.wrap .u8) (.var 1)))) (.var 8)) (.bin .lt (.var 8) (.bin .sub (.lit 2) (.bin .sub (.lit 0) (.un (.wrap .u8) (.var 1)))))) (.lit 101) (.ite (.bin .and (.bin .le (.bin .sub (.lit 0) (.bin .sub (.lit 0) (.un (.wrap .u8) (.var 1)))) (.var 8)) (.bin .lt (.var 8) (.bin .sub (.lit 1) (.bin .sub (.lit 0) (.un (.wrap .u8) (.var 1)))))) (.lit 100) (.ite (.bin .and (.bin .le (.un (.wrap .u8) (.var 1)) (.var 8)) (.bin .lt (.var 8) (.bin .add (.un (.wrap .u8) (.var 1)) (.lit 2)))) (.lit 0) (.ite (.bin .and (.bin .le (.lit 0) (.var 8)) (.bin .lt (.var 8) (.var 5))) (.lit (-1)) (.lit 0))))) (.lit (-1)))
def q56 : E := (.bin .eq (.ite (.bin .and (.bin .le (.bin .sub (.lit 1) (.bin .sub (.lit 0) (.un (.wrap .u8) (.var 1)))) (.var 8)) (.bin .lt (.var 8) (.bin .sub (.lit 2) (.bin .sub (.lit 0) (.un (.wrap .u8) (.var 1)))))) (.lit 101) (.ite (.bin .and (.bin .le (.bin .sub (.lit 0) (.bin .sub (.lit 0) (.un (.wrap .u8) (.var 1)))) (.var 8)) (.bin .lt (.var 8) (.bin .sub (.lit 1) (.bin .sub (.lit 0) (.un (.wrap .u8) (.var 1)))))) (.lit 100) (.ite (.bin .and (.bin .le (.un (.wrap .u8) (.var 1)) (.var 8)) (.bin .lt (.var 8) (.bin .add (.un (.wrap .u8) (.var 1)) (.lit 2)))) (.lit 0) (.ite (.bin .and (.bin .le (.lit 0) (.var 8)) (.bin .lt (.var 8) (.var 5))) (.lit (-1)) (.lit 0))))) (.bin .add (.bin .sub (.var 8) (.un (.wrap .u8) (.var 1))) (.lit 100)))
def q57 : E := (.bin .eq (.ite (.bin .and (.bin .le (.bin .sub (.lit 1) (.bin .sub (.lit 0) (.un (.wrap .u8) (.var 1)))) (.un (.wrap .u8) (.var 0))) (.bin .lt (.un (.wrap .u8) (.var 0)) (.bin .sub (.lit 2) (.bin .sub (.lit 0) (.un (.wrap .u8) (.var 1)))))) (.lit 101) (.ite (.bin .and (.bin .le (.bin .sub (.lit 0) (.bin .sub (.lit 0) (.un (.wrap .u8) (.var 1)))) (.un (.wrap .u8) (.var 0))) (.bin .lt (.un (.wrap .u8) (.var 0)) (.bin .sub (.lit 1) (.bin .sub (.lit 0) (.un (.wrap .u8) (.var 1)))))) (.lit 100) (.ite (.bin .and (.bin .le (.un (.wrap .u8) (.var 1)) (.un (.wrap .u8) (.var 0))) (.bin .lt (.un (.wrap .u8) (.var 0)) (.bin .add (.un (.wrap .u8) (.var 1)) (.lit 2)))) (.lit 0) (.ite (.bin .and (.bin .le (.lit 0) (.un (.wrap .u8) (.var 0))) (.bin .lt (.un (.wrap .u8) (.var 0)) (.var 5))) (.lit (-1)) (.lit 0))))) (.lit (-1)))
def q58 : E := (.bin .lt (.var 7) (.bin .add (.un (.wrap .u8) (.var 1)) (.bin .emod (.var 2) (.lit 16))))
def q59 : E := (.bin .le (.un (.wrap .u8) (.var 1)) (.var 7))
def q60 : E := (.bin .le (.bin .mul (.un (.wrap .u8) (.var 0)) (.lit 1)) (.var 7))
def q61 : E := (.bin .lt (.var 7) (.un (.wrap .u8) (.var 0)))
def q62 : E := (.bin .le (.lit 0) (.var 7))
def q63 : E := (.bin .le (.var 7) (.un (.wrap .u8) (.var 0)))
def q64 : E := (.bin .le (.bin .emod (.var 2) (.lit 16)) (.lit 1))
def q65 : E := (.bin .le (.bin .add (.un (.wrap .u8) (.var 1)) (.bin .emod (.var 2) (.lit 16))) (.var 7))
def q66 : E := (.bin .lt (.var 7) (.un (.wrap .u8) (.var 1)))
def q67 : E := (.bin .eq (.ite (.bin .and (.bin .le (.lit 0) (.var 7)) (.bin .lt (.var 7) (.var 5))) (.lit (-1)) (.lit 0)) (.lit (-1)))
def q68 : E := (.bin .lt (.var 7) (.bin .mul (.un (.wrap .u8) (.var 0)) (.lit 1)))
def q69 : E := (.bin .le (.un (.wrap .u8) (.var 0)) (.var 7))
def q70 : E := (.bin .lt (.bin .sub (.bin .mul (.un (.wrap .u8) (.var 0)) (.lit 1)) (.un (.wrap .u8) (.var 1))) (.lit 1))
def q71 : E := (.bin .le (.lit 1) (.bin .sub (.bin .mul (.un (.wrap .u8) (.var 0)) (.lit 1)) (.un (.wrap .u8) (.var 1))))
def q72 : E := (.bin .eq (.ite (.bin .and (.bin .le (.un (.wrap .u8) (.var 1)) (.var 7)) (.bin .lt (.var 7) (.bin .add (.un (.wrap .u8) (.var 1)) (.lit 1)))) (.lit 100) (.ite (.bin .and (.bin .le (.lit 0) (.var 7)) (.bin .lt (.var 7) (.var 5))) (.lit (-1)) (.lit 0))) (.lit (-1)))
def q73 : E := (.bin .eq (.ite (.bin .and (.bin .le (.un (.wrap .u8) (.var 1)) (.var 7)) (.bin .lt (.var 7) (.bin .add (.un (.wrap .u8) (.var 1)) (.lit 1)))) (.lit 100) (.ite (.bin .and (.bin .le (.lit 0) (.var 7)) (.bin .lt (.var 7) (.var 5))) (.lit (-1)) (.lit 0))) (.bin .add (.bin .sub (.var 7) (.un (.wrap .u8) (.var 1))) (.lit 100)))
def q74 : E := (.bin .eq (.ite (.bin .and (.bin .le (.un (.wrap .u8) (.var 1)) (.un (.wrap .u8) (.var 0))) (.bin .lt (.un (.wrap .u8) (.var 0)) (.bin .add (.un (.wrap .u8) (.var 1)) (.lit 1)))) (.lit 100) (.ite (.bin .and (.bin .le (.lit 0) (.un (.wrap .u8) (.var 0))) (.bin .lt (.un (.wrap .u8) (.var 0)) (.var 5))) (.lit (-1)) (.lit 0))) (.lit (-1)))
def q75 : E := (.bin .le (.un (.wrap .u8) (.var 1)) (.var 6))
def q76 : E := (.bin .le (.bin .mul (.un (.wrap .u8) (.var 0)) (.lit 1)) (.var 6))
def q77 : E := (.bin .lt (.var 6) (.un (.wrap .u8) (.var 0)))
def q78 : E := (.bin .le (.lit 0) (.var 6))
def q79 : E := (.bin .le (.var 6) (.un (.wrap .u8) (.var 0)))
def q80 : E := (.bin .le (.bin .emod (.var 2) (.lit 16)) (.lit 0))
def q81 : E := (.bin .lt (.var 6) (.un (.wrap .u8) (.var 1)))
def q82 : E := (.bin .eq (.ite (.bin .and (.bin .le (.lit 0) (.var 6)) (.bin .lt (.var 6) (.var 5))) (.lit (-1)) (.lit 0)) (.lit (-1)))
def q83 : E := (.bin .lt (.var 6) (.bin .mul (.un (.wrap .u8) (.var 0)) (.lit 1)))
def q84 : E := (.bin .le (.un (.wrap .u8) (.var 0)) (.var 6))
def q85 : E := (.bin .lt (.un (.wrap .u8) (.var 1)) (.bin .mul (.un (.wrap .u8) (.var 0)) (.lit 1)))
def q86 : E := (.bin .le (.bin .mul (.un (.wrap .u8) (.var 0)) (.lit 1)) (.un (.wrap .u8) (.var 1)))
def q87 : E := (.bin .le (.lit 3) (.var 7))
def q88 : E := (.bin .le (.lit 2) (.var 6))
def q89 : E := (.bin .lt (.bin .mul (.un (.wrap .u8) (.var 0)) (.lit 1)) (.lit 1))
def q90 : E := (.bin .lt (.var 6) (.bin .add (.un (.wrap .u8) (.var 1)) (.bin .emod (.var 2) (.lit 16))))
def q91 : E := (.bin .le (.bin .add (.un (.wrap .u8) (.var 1)) (.bin .emod (.var 2) (.lit 16))) (.var 6))
def q92 : E := (.bin .le (.un (.wrap .u8) (.var 1)) (.var 5))
def q93 : E := (.bin .lt (.var 5) (.un (.wrap .u8) (.var 0)))
def q94 : E := (.bin .le (.lit 0) (.var 5))
def q95 : E := (.bin .le (.var 5) (.un (.wrap .u8) (.var 0)))
def q96 : E := (.bin .lt (.var 5) (.un (.wrap .u8) (.var 1)))
def q97 : E := (.bin .le (.un (.wrap .u8) (.var 0)) (.var 5))
def lawR : List Leaf := [
  ([q0, q1, q2, q3, q4, q5, q6, q7, q8, q9, q10, q11, q12, q13, q14, q15, q16, q17, q18, q19, q20, q21, q22, q23], .bool (.lit 0)),
  ([q24, q1, q2, q3, q4, q5, q6, q7, q8, q9, q10, q11, q12, q13, q14, q15, q16, q17, q18, q19, q20, q21, q22, q23], .bool (.lit 0)),
  ([q25, q2, q3, q4, q5, q6, q7, q8, q9, q10, q11, q12, q13, q14, q15, q16, q17, q18, q19, q20, q21, q22, q23], .bool (.lit 0)),
  ([q26, q3, q4, q5, q6, q7, q8, q9, q10, q11, q12, q13, q14, q15, q16, q17, q18, q19, q20, q21, q22, q23], .bool (.lit 0)),
  ([q0, q1, q2, q27, q28, q4, q5, q6, q7, q8, q9, q10, q11, q12, q13, q14, q15, q16, q17, q18, q19, q20, q21, q22, q23], .bool (.lit 0)),
  ([q0, q1, q2, nt q27, q28, q4, q5, q6, q7, q8, q9, q10, q11, q12, q13, q14, q15, q16, q17, q18, q19, q20, q21, q22, q23], .bool (.lit 0)),
  ([q24, q1, q2, nt q27, q28, q4, q5, q6, q7, q8, q9, q10, q11, q12, q13, q14, q15, q16, q17, q18, q19, q20, q21, q22, q23], .bool (.lit 0)),
  ([q25, q2, nt q27, q28, q4, q5, q6, q7, q8, q9, q10, q11, q12, q13, q14, q15, q16, q17, q18, q19, q20, q21, q22, q23], .bool (.lit 0)),
  ([q26, nt q27, q28, q4, q5, q6, q7, q8, q9, q10, q11, q12, q13, q14, q15, q16, q17, q18, q19, q20, q21, q22, q23], .bool (.lit 0)),
  ([q29, q30, q31, q5, q6, q7, q8, q9, q10, q11, q12, q13, q14, q15, q16, q17, q18, q19, q20, q21, q22, q23], .bool (.lit 1)),
  ([nt q29, q30, q31, q5, q6, q7, q8, q9, q10, q11, q12, q13, q14, q15, q16, q17, q18, q19, q20, q21, q22, q23], .bool (.lit 0)),
  ([q29, q32, q33, q31, q5, q6, q7, q8, q9, q10, q11, q12, q13, q14, q15, q16, q17, q18, q19, q20, q21, q22, q23], .bool (.lit 0)),
  ([nt q29, q32, q33, q31, q5, q6, q7, q8, q9, q10, q11, q12, q13, q14, q15, q16, q17, q18, q19, q20, q21, q22, q23], .bool (.lit 0)),
  ([q29, nt q32, q33, q31, q5, q6, q7, q8, q9, q10, q11, q12, q13, q14, q15, q16, q17, q18, q19, q20, q21, q22, q23], .bool (.lit 0)),
  ([nt q29, nt q32, q33, q31, q5, q6, q7, q8, q9, q10, q11, q12, q13, q14, q15, q16, q17, q18, q19, q20, q21, q22, q23], .bool (.lit 0)),
  ([q0, q1, q2, q3, q4, q5, q6, q34, q35, q8, q9, q10, q11, q12, q13, q14, q15, q16, q17, q18, q19, q20, q21, q22, q23], .bool (.lit 0)),
  ([q24, q1, q2, q3, q4, q5, q6, q34, q35, q8, q9, q10, q11, q12, q13, q14, q15, q16, q17, q18, q19, q20, q21, q22, q23], .bool (.lit 0)),
  ([q25, q2, q3, q4, q5, q6, q34, q35, q8, q9, q10, q11, q12, q13, q14, q15, q16, q17, q18, q19, q20, q21, q22, q23], .bool (.lit 0)),
  ([q26, q3, q4, q5, q6, q34, q35, q8, q9, q10, q11, q12, q13, q14, q15, q16, q17, q18, q19, q20, q21, q22, q23], .bool (.lit 0)),
  ([q0, q1, q2, q27, q28, q4, q5, q6, q34, q35, q8, q9, q10, q11, q12, q13, q14, q15, q16, q17, q18, q19, q20, q21, q22, q23], .bool (.lit 0)),
  ([q0, q1, q2, nt q27, q28, q4, q5, q6, q34, q35, q8, q9, q10, q11, q12, q13, q14, q15, q16, q17, q18, q19, q20, q21, q22, q23], .bool (.lit 0)),
  ([q24, q1, q2, nt q27, q28, q4, q5, q6, q34, q35, q8, q9, q10, q11, q12, q13, q14, q15, q16, q17, q18, q19, q20, q21, q22, q23], .bool (.lit 0)),
  ([q25, q2, nt q27, q28, q4, q5, q6, q34, q35, q8, q9, q10, q11, q12, q13, q14, q15, q16, q17, q18, q19, q20, q21, q22, q23], .bool (.lit 0)),
  ([q26, nt q27, q28, q4, q5, q6, q34, q35, q8, q9, q10, q11, q12, q13, q14, q15, q16, q17, q18, q19, q20, q21, q22, q23], .bool (.lit 0)),
  ([q29, q30, q31, q5, q6, q34, q35, q8, q9, q10, q11, q12, q13, q14, q15, q16, q17, q18, q19, q20, q21, q22, q23], .bool (.lit 1)),
  ([nt q29, q30, q31, q5, q6, q34, q35, q8, q9, q10, q11, q12, q13, q14, q15, q16, q17, q18, q19, q20, q21, q22, q23], .bool (.lit 0)),
  ([q29, q32, q33, q31, q5, q6, q34, q35, q8, q9, q10, q11, q12, q13, q14, q15, q16, q17, q18, q19, q20, q21, q22, q23], .bool (.lit 0)),
  ([nt q29, q32, q33, q31, q5, q6, q34, q35, q8, q9, q10, q11, q12, q13, q14, q15, q16, q17, q18, q19, q20, q21, q22, q23], .bool (.lit 0)),
  ([q29, nt q32, q33, q31, q5, q6, q34, q35, q8, q9, q10, q11, q12, q13, q14, q15, q16, q17, q18, q19, q20, q21, q22, q23], .bool (.lit 0)),
  ([nt q29, nt q32, q33, q31, q5, q6, q34, q35, q8, q9, q10, q11, q12, q13, q14, q15, q16, q17, q18, q19, q20, q21, q22, q23], .bool (.lit 0)),
  ([q0, q1, q2, q3, q4, q5, q6, q36, q35, q8, q9, q10, q11, q12, q13, q14, q15, q16, q17, q18, q19, q20, q21, q22, q23], .bool (.lit 0)),
  ([q24, q1, q2, q3, q4, q5, q6, q36, q35, q8, q9, q10, q11, q12, q13, q14, q15, q16, q17, q18, q19, q20, q21, q22, q23], .bool (.lit 0)),
  ([q25, q2, q3, q4, q5, q6, q36, q35, q8, q9, q10, q11, q12, q13, q14, q15, q16, q17, q18, q19, q20, q21, q22, q23], .bool (.lit 0)),
  ([q26, q3, q4, q5, q6, q36, q35, q8, q9, q10, q11, q12, q13, q14, q15, q16, q17, q18, q19, q20, q21, q22, q23], .bool (.lit 0)),
  ([q0, q1, q2, q37, q28, q4, q5, q6, q36, q35, q8, q9, q10, q11, q12, q13, q14, q15, q16, q17, q18, q19, q20, q21, q22, q23], .bool (.lit 0)),
  ([nt q38, q0, q1, q2, nt q37, q28, q4, q5, q6, q36, q35, q8, q9, q10, q11, q12, q13, q14, q15, q16, q17, q18, q19, q20, q21, q22, q23], .bool (.lit 0)),
  ([q24, q1, q2, nt q37, q28, q4, q5, q6, q36, q35, q8, q9, q10, q11, q12, q13, q14, q15, q16, q17, q18, q19, q20, q21, q22, q23], .bool (.lit 0)),
  ([q25, q2, nt q37, q28, q4, q5, q6, q36, q35, q8, q9, q10, q11, q12, q13, q14, q15, q16, q17, q18, q19, q20, q21, q22, q23], .bool (.lit 0)),
  ([q26, nt q37, q28, q4, q5, q6, q36, q35, q8, q9, q10, q11, q12, q13, q14, q15, q16, q17, q18, q19, q20, q21, q22, q23], .bool (.lit 0)),
  ([q39, q30, q31, q5, q6, q36, q35, q8, q9, q10, q11, q12, q13, q14, q15, q16, q17, q18, q19, q20, q21, q22, q23], .bool (.lit 1)),
  ([nt q39, q30, q31, q5, q6, q36, q35, q8, q9, q10, q11, q12, q13, q14, q15, q16, q17, q18, q19, q20, q21, q22, q23], .bool (.lit 0)),
  ([q39, q40, q33, q31, q5, q6, q36, q35, q8, q9, q10, q11, q12, q13, q14, q15, q16, q17, q18, q19, q20, q21, q22, q23], .bool (.lit 0)),
  ([nt q39, q40, q33, q31, q5, q6, q36, q35, q8, q9, q10, q11, q12, q13, q14, q15, q16, q17, q18, q19, q20, q21, q22, q23], .bool (.lit 0)),
  ([q39, nt q40, q33, q31, q5, q6, q36, q35, q8, q9, q10, q11, q12, q13, q14, q15, q16, q17, q18, q19, q20, q21, q22, q23], .bool (.lit 0)),
  ([nt q39, nt q40, q33, q31, q5, q6, q36, q35, q8, q9, q10, q11, q12, q13, q14, q15, q16, q17, q18, q19, q20, q21, q22, q23], .bool (.lit 0)),
  ([q41, q42, q2, q43, q44, q45, q46, q7, q47, q10, q11, q12, q13, q14, q15, q16, q17, q18, q19, q20, q21, q22, q23], .bool (.lit 0)),
  ([q48, q42, q2, q43, q44, q45, q46, q7, q47, q10, q11, q12, q13, q14, q15, q16, q17, q18, q19, q20, q21, q22, q23], .bool (.lit 0)),
  ([q49, q2, q43, q44, q45, q46, q7, q47, q10, q11, q12, q13, q14, q15, q16, q17, q18, q19, q20, q21, q22, q23], .bool (.lit 0)),
  ([q26, q43, q44, q45, q46, q7, q47, q10, q11, q12, q13, q14, q15, q16, q17, q18, q19, q20, q21, q22, q23], .bool (.lit 0)),
  ([q41, q42, q2, q50, q51, q44, q45, q46, q7, q47, q10, q11, q12, q13, q14, q15, q16, q17, q18, q19, q20, q21, q22, q23], .bool (.lit 0)),
  ([q41, q42, q2, nt q50, q51, q44, q45, q46, q7, q47, q10, q11, q12, q13, q14, q15, q16, q17, q18, q19, q20, q21, q22, q23], .bool (.lit 0)),
  ([q48, q42, q2, nt q50, q51, q44, q45, q46, q7, q47, q10, q11, q12, q13, q14, q15, q16, q17, q18, q19, q20, q21, q22, q23], .bool (.lit 0)),
  ([q49, q2, nt q50, q51, q44, q45, q46, q7, q47, q10, q11, q12, q13, q14, q15, q16, q17, q18, q19, q20, q21, q22, q23], .bool (.lit 0)),
  ([q26, nt q50, q51, q44, q45, q46, q7, q47, q10, q11, q12, q13, q14, q15, q16, q17, q18, q19, q20, q21, q22, q23], .bool (.lit 0)),
  ([q29, q30, q52, q45, q46, q7, q47, q10, q11, q12, q13, q14, q15, q16, q17, q18, q19, q20, q21, q22, q23], .bool (.lit 1)),
  ([nt q29, q30, q52, q45, q46, q7, q47, q10, q11, q12, q13, q14, q15, q16, q17, q18, q19, q20, q21, q22, q23], .bool (.lit 0)),
  ([q29, q32, q33, q52, q45, q46, q7, q47, q10, q11, q12, q13, q14, q15, q16, q17, q18, q19, q20, q21, q22, q23], .bool (.lit 0)),
  ([nt q29, q32, q33, q52, q45, q46, q7, q47, q10, q11, q12, q13, q14, q15, q16, q17, q18, q19, q20, q21, q22, q23], .bool (.lit 0)),
  ([q29, nt q32, q33, q52, q45, q46, q7, q47, q10, q11, q12, q13, q14, q15, q16, q17, q18, q19, q20, q21, q22, q23], .bool (.lit 0)),
  ([nt q29, nt q32, q33, q52, q45, q46, q7, q47, q10, q11, q12, q13, q14, q15, q16, q17, q18, q19, q20, q21, q22, q23], .bool (.lit 0)),
  ([q41, q42, q2, q43, q44, q45, q46, q53, q35, q47, q10, q11, q12, q13, q14, q15, q16, q17, q18, q19, q20, q21, q22, q23], .bool (.lit 0)),
  ([q48, q42, q2, q43, q44, q45, q46, q53, q35, q47, q10, q11, q12, q13, q14, q15, q16, q17, q18, q19, q20, q21, q22, q23], .bool (.lit 0)),
  ([q49, q2, q43, q44, q45, q46, q53, q35, q47, q10, q11, q12, q13, q14, q15, q16, q17, q18, q19, q20, q21, q22, q23], .bool (.lit 0)),
  ([q26, q43, q44, q45, q46, q53, q35, q47, q10, q11, q12, q13, q14, q15, q16, q17, q18, q19, q20, q21, q22, q23], .bool (.lit 0)),
  ([q41, q42, q2, q50, q51, q44, q45, q46, q53, q35, q47, q10, q11, q12, q13, q14, q15, q16, q17, q18, q19, q20, q21, q22, q23], .bool (.lit 0)),
  ([q41, q42, q2, nt q50, q51, q44, q45, q46, q53, q35, q47, q10, q11, q12, q13, q14, q15, q16, q17, q18, q19, q20, q21, q22, q23], .bool (.lit 0)),
  ([q48, q42, q2, nt q50, q51, q44, q45, q46, q53, q35, q47, q10, q11, q12, q13, q14, q15, q16, q17, q18, q19, q20, q21, q22, q23], .bool (.lit 0)),
  ([q49, q2, nt q50, q51, q44, q45, q46, q53, q35, q47, q10, q11, q12, q13, q14, q15, q16, q17, q18, q19, q20, q21, q22, q23], .bool (.lit 0)),
  ([q26, nt q50, q51, q44, q45, q46, q53, q35, q47, q10, q11, q12, q13, q14, q15, q16, q17, q18, q19, q20, q21, q22, q23], .bool (.lit 0)),
  ([q29, q30, q52, q45, q46, q53, q35, q47, q10, q11, q12, q13, q14, q15, q16, q17, q18, q19, q20, q21, q22, q23], .bool (.lit 1)),
  ([nt q29, q30, q52, q45, q46, q53, q35, q47, q10, q11, q12, q13, q14, q15, q16, q17, q18, q19, q20, q21, q22, q23], .bool (.lit 0)),
  ([q29, q32, q33, q52, q45, q46, q53, q35, q47, q10, q11, q12, q13, q14, q15, q16, q17, q18, q19, q20, q21, q22, q23], .bool (.lit 0)),
  ([nt q29, q32, q33, q52, q45, q46, q53, q35, q47, q10, q11, q12, q13, q14, q15, q16, q17, q18, q19, q20, q21, q22, q23], .bool (.lit 0)),
  ([q29, nt q32, q33, q52, q45, q46, q53, q35, q47, q10, q11, q12, q13, q14, q15, q16, q17, q18, q19, q20, q21, q22, q23], .bool (.lit 0)),
  ([nt q29, nt q32, q33, q52, q45, q46, q53, q35, q47, q10, q11, q12, q13, q14, q15, q16, q17, q18, q19, q20, q21, q22, q23], .bool (.lit 0)),
  ([q41, q42, q2, q43, q44, q45, q46, q54, q35, q47, q10, q11, q12, q13, q14, q15, q16, q17, q18, q19, q20, q21, q22, q23], .bool (.lit 0)),
  ([q48, q42, q2, q43, q44, q45, q46, q54, q35, q47, q10, q11, q12, q13, q14, q15, q16, q17, q18, q19, q20, q21, q22, q23], .bool (.lit 0)),
  ([q49, q2, q43, q44, q45, q46, q54, q35, q47, q10, q11, q12, q13, q14, q15, q16, q17, q18, q19, q20, q21, q22, q23], .bool (.lit 0)),
  ([q26, q43, q44, q45, q46, q54, q35, q47, q10, q11, q12, q13, q14, q15, q16, q17, q18, q19, q20, q21, q22, q23], .bool (.lit 0)),
  ([q41, q42, q2, q55, q51, q44, q45, q46, q54, q35, q47, q10, q11, q12, q13, q14, q15, q16, q17, q18, q19, q20, q21, q22, q23], .bool (.lit 0)),
  ([nt q56, q41, q42, q2, nt q55, q51, q44, q45, q46, q54, q35, q47, q10, q11, q12, q13, q14, q15, q16, q17, q18, q19, q20, q21, q22, q23], .bool (.lit 0)),
  ([q48, q42, q2, nt q55, q51, q44, q45, q46, q54, q35, q47, q10, q11, q12, q13, q14, q15, q16, q17, q18, q19, q20, q21, q22, q23], .bool (.lit 0)),
  ([q49, q2, nt q55, q51, q44, q45, q46, q54, q35, q47, q10, q11, q12, q13, q14, q15, q16, q17, q18, q19, q20, q21, q22, q23], .bool (.lit 0)),
  ([q26, nt q55, q51, q44, q45, q46, q54, q35, q47, q10, q11, q12, q13, q14, q15, q16, q17, q18, q19, q20, q21, q22, q23], .bool (.lit 0)),
  ([q39, q30, q52, q45, q46, q54, q35, q47, q10, q11, q12, q13, q14, q15, q16, q17, q18, q19, q20, q21, q22, q23], .bool (.lit 1)),
  ([nt q39, q30, q52, q45, q46, q54, q35, q47, q10, q11, q12, q13, q14, q15, q16, q17, q18, q19, q20, q21, q22, q23], .bool (.lit 0)),
  ([q39, q57, q33, q52, q45, q46, q54, q35, q47, q10, q11, q12, q13, q14, q15, q16, q17, q18, q19, q20, q21, q22, q23], .bool (.lit 0)),
  ([nt q39, q57, q33, q52, q45, q46, q54, q35, q47, q10, q11, q12, q13, q14, q15, q16, q17, q18, q19, q20, q21, q22, q23], .bool (.lit 0)),
  ([q39, nt q57, q33, q52, q45, q46, q54, q35, q47, q10, q11, q12, q13, q14, q15, q16, q17, q18, q19, q20, q21, q22, q23], .bool (.lit 0)),
  ([nt q39, nt q57, q33, q52, q45, q46, q54, q35, q47, q10, q11, q12, q13, q14, q15, q16, q17, q18, q19, q20, q21, q22, q23], .bool (.lit 0)),
  ([q58, q59, q2, q60, q61, q62, q63, q7, q64, q12, q13, q14, q15, q16, q17, q18, q19, q20, q21, q22, q23], .bool (.lit 0)),
  ([q65, q59, q2, q60, q61, q62, q63, q7, q64, q12, q13, q14, q15, q16, q17, q18, q19, q20, q21, q22, q23], .bool (.lit 0)),
  ([q66, q2, q60, q61, q62, q63, q7, q64, q12, q13, q14, q15, q16, q17, q18, q19, q20, q21, q22, q23], .bool (.lit 0)),
  ([q26, q60, q61, q62, q63, q7, q64, q12, q13, q14, q15, q16, q17, q18, q19, q20, q21, q22, q23], .bool (.lit 0)),
  ([q58, q59, q2, q67, q68, q61, q62, q63, q7, q64, q12, q13, q14, q15, q16, q17, q18, q19, q20, q21, q22, q23], .bool (.lit 0)),
  ([q58, q59, q2, nt q67, q68, q61, q62, q63, q7, q64, q12, q13, q14, q15, q16, q17, q18, q19, q20, q21, q22, q23], .bool (.lit 0)),
  ([q65, q59, q2, nt q67, q68, q61, q62, q63, q7, q64, q12, q13, q14, q15, q16, q17, q18, q19, q20, q21, q22, q23], .bool (.lit 0)),
  ([q66, q2, nt q67, q68, q61, q62, q63, q7, q64, q12, q13, q14, q15, q16, q17, q18, q19, q20, q21, q22, q23], .bool (.lit 0)),
  ([q26, nt q67, q68, q61, q62, q63, q7, q64, q12, q13, q14, q15, q16, q17, q18, q19, q20, q21, q22, q23], .bool (.lit 0)),
  ([q29, q30, q69, q62, q63, q7, q64, q12, q13, q14, q15, q16, q17, q18, q19, q20, q21, q22, q23], .bool (.lit 1)),
  ([nt q29, q30, q69, q62, q63, q7, q64, q12, q13, q14, q15, q16, q17, q18, q19, q20, q21, q22, q23], .bool (.lit 0)),
  ([q29, q32, q33, q69, q62, q63, q7, q64, q12, q13, q14, q15, q16, q17, q18, q19, q20, q21, q22, q23], .bool (.lit 0)),
  ([nt q29, q32, q33, q69, q62, q63, q7, q64, q12, q13, q14, q15, q16, q17, q18, q19, q20, q21, q22, q23], .bool (.lit 0)),
  ([q29, nt q32, q33, q69, q62, q63, q7, q64, q12, q13, q14, q15, q16, q17, q18, q19, q20, q21, q22, q23], .bool (.lit 0)),
  ([nt q29, nt q32, q33, q69, q62, q63, q7, q64, q12, q13, q14, q15, q16, q17, q18, q19, q20, q21, q22, q23], .bool (.lit 0)),
  ([q58, q59, q2, q60, q61, q62, q63, q70, q35, q64, q12, q13, q14, q15, q16, q17, q18, q19, q20, q21, q22, q23], .bool (.lit 0)),
  ([q65, q59, q2, q60, q61, q62, q63, q70, q35, q64, q12, q13, q14, q15, q16, q17, q18, q19, q20, q21, q22, q23], .bool (.lit 0)),
  ([q66, q2, q60, q61, q62, q63, q70, q35, q64, q12, q13, q14, q15, q16, q17, q18, q19, q20, q21, q22, q23], .bool (.lit 0)),
  ([q26, q60, q61, q62, q63, q70, q35, q64, q12, q13, q14, q15, q16, q17, q18, q19, q20, q21, q22, q23], .bool (.lit 0)),
  ([q58, q59, q2, q67, q68, q61, q62, q63, q70, q35, q64, q12, q13, q14, q15, q16, q17, q18, q19, q20, q21, q22, q23], .bool (.lit 0)),
  ([q58, q59, q2, nt q67, q68, q61, q62, q63, q70, q35, q64, q12, q13, q14, q15, q16, q17, q18, q19, q20, q21, q22, q23], .bool (.lit 0)),
  ([q65, q59, q2, nt q67, q68, q61, q62, q63, q70, q35, q64, q12, q13, q14, q15, q16, q17, q18, q19, q20, q21, q22, q23], .bool (.lit 0)),
  ([q66, q2, nt q67, q68, q61, q62, q63, q70, q35, q64, q12, q13, q14, q15, q16, q17, q18, q19, q20, q21, q22, q23], .bool (.lit 0)),
  ([q26, nt q67, q68, q61, q62, q63, q70, q35, q64, q12, q13, q14, q15, q16, q17, q18, q19, q20, q21, q22, q23], .bool (.lit 0)),
  ([q29, q30, q69, q62, q63, q70, q35, q64, q12, q13, q14, q15, q16, q17, q18, q19, q20, q21, q22, q23], .bool (.lit 1)),
  ([nt q29, q30, q69, q62, q63, q70, q35, q64, q12, q13, q14, q15, q16, q17, q18, q19, q20, q21, q22, q23], .bool (.lit 0)),
  ([q29, q32, q33, q69, q62, q63, q70, q35, q64, q12, q13, q14, q15, q16, q17, q18, q19, q20, q21, q22, q23], .bool (.lit 0)),
  ([nt q29, q32, q33, q69, q62, q63, q70, q35, q64, q12, q13, q14, q15, q16, q17, q18, q19, q20, q21, q22, q23], .bool (.lit 0)),
  ([q29, nt q32, q33, q69, q62, q63, q70, q35, q64, q12, q13, q14, q15, q16, q17, q18, q19, q20, q21, q22, q23], .bool (.lit 0)),
  ([nt q29, nt q32, q33, q69, q62, q63, q70, q35, q64, q12, q13, q14, q15, q16, q17, q18, q19, q20, q21, q22, q23], .bool (.lit 0)),
  ([q58, q59, q2, q60, q61, q62, q63, q71, q35, q64, q12, q13, q14, q15, q16, q17, q18, q19, q20, q21, q22, q23], .bool (.lit 0)),
  ([q65, q59, q2, q60, q61, q62, q63, q71, q35, q64, q12, q13, q14, q15, q16, q17, q18, q19, q20, q21, q22, q23], .bool (.lit 0)),
  ([q66, q2, q60, q61, q62, q63, q71, q35, q64, q12, q13, q14, q15, q16, q17, q18, q19, q20, q21, q22, q23], .bool (.lit 0)),
  ([q26, q60, q61, q62, q63, q71, q35, q64, q12, q13, q14, q15, q16, q17, q18, q19, q20, q21, q22, q23], .bool (.lit 0)),
  ([q58, q59, q2, q72, q68, q61, q62, q63, q71, q35, q64, q12, q13, q14, q15, q16, q17, q18, q19, q20, q21, q22, q23], .bool (.lit 0)),
  ([nt q73, q58, q59, q2, nt q72, q68, q61, q62, q63, q71, q35, q64, q12, q13, q14, q15, q16, q17, q18, q19, q20, q21, q22, q23], .bool (.lit 0)),
  ([q65, q59, q2, nt q72, q68, q61, q62, q63, q71, q35, q64, q12, q13, q14, q15, q16, q17, q18, q19, q20, q21, q22, q23], .bool (.lit 0)),
  ([q66, q2, nt q72, q68, q61, q62, q63, q71, q35, q64, q12, q13, q14, q15, q16, q17, q18, q19, q20, q21, q22, q23], .bool (.lit 0)),
  ([q26, nt q72, q68, q61, q62, q63, q71, q35, q64, q12, q13, q14, q15, q16, q17, q18, q19, q20, q21, q22, q23], .bool (.lit 0)),
  ([q39, q30, q69, q62, q63, q71, q35, q64, q12, q13, q14, q15, q16, q17, q18, q19, q20, q21, q22, q23], .bool (.lit 1)),
  ([nt q39, q30, q69, q62, q63, q71, q35, q64, q12, q13, q14, q15, q16, q17, q18, q19, q20, q21, q22, q23], .bool (.lit 0)),
  ([q39, q74, q33, q69, q62, q63, q71, q35, q64, q12, q13, q14, q15, q16, q17, q18, q19, q20, q21, q22, q23], .bool (.lit 0)),
  ([nt q39, q74, q33, q69, q62, q63, q71, q35, q64, q12, q13, q14, q15, q16, q17, q18, q19, q20, q21, q22, q23], .bool (.lit 0)),
  ([q39, nt q74, q33, q69, q62, q63, q71, q35, q64, q12, q13, q14, q15, q16, q17, q18, q19, q20, q21, q22, q23], .bool (.lit 0)),
  ([nt q39, nt q74, q33, q69, q62, q63, q71, q35, q64, q12, q13, q14, q15, q16, q17, q18, q19, q20, q21, q22, q23], .bool (.lit 0)),
  ([q75, q2, q76, q77, q78, q79, q7, q80, q14, q15, q16, q17, q18, q19, q20, q21, q22, q23], .bool (.lit 0)),
  ([q81, q2, q76, q77, q78, q79, q7, q80, q14, q15, q16, q17, q18, q19, q20, q21, q22, q23], .bool (.lit 0)),
  ([q26, q76, q77, q78, q79, q7, q80, q14, q15, q16, q17, q18, q19, q20, q21, q22, q23], .bool (.lit 0)),
  ([q75, q2, nt q82, q83, q77, q78, q79, q7, q80, q14, q15, q16, q17, q18, q19, q20, q21, q22, q23], .bool (.lit 0)),
  ([q81, q2, nt q82, q83, q77, q78, q79, q7, q80, q14, q15, q16, q17, q18, q19, q20, q21, q22, q23], .bool (.lit 0)),
  ([q26, nt q82, q83, q77, q78, q79, q7, q80, q14, q15, q16, q17, q18, q19, q20, q21, q22, q23], .bool (.lit 0)),
  ([q29, q30, q84, q78, q79, q7, q80, q14, q15, q16, q17, q18, q19, q20, q21, q22, q23], .bool (.lit 1)),
  ([nt q29, q30, q84, q78, q79, q7, q80, q14, q15, q16, q17, q18, q19, q20, q21, q22, q23], .bool (.lit 0)),
  ([q29, q32, q33, q84, q78, q79, q7, q80, q14, q15, q16, q17, q18, q19, q20, q21, q22, q23], .bool (.lit 0)),
  ([nt q29, q32, q33, q84, q78, q79, q7, q80, q14, q15, q16, q17, q18, q19, q20, q21, q22, q23], .bool (.lit 0)),
  ([q29, nt q32, q33, q84, q78, q79, q7, q80, q14, q15, q16, q17, q18, q19, q20, q21, q22, q23], .bool (.lit 0)),
  ([nt q29, nt q32, q33, q84, q78, q79, q7, q80, q14, q15, q16, q17, q18, q19, q20, q21, q22, q23], .bool (.lit 0)),
  ([q75, q2, q76, q77, q78, q79, q85, q35, q80, q14, q15, q16, q17, q18, q19, q20, q21, q22, q23], .bool (.lit 0)),
  ([q81, q2, q76, q77, q78, q79, q85, q35, q80, q14, q15, q16, q17, q18, q19, q20, q21, q22, q23], .bool (.lit 0)),
  ([q26, q76, q77, q78, q79, q85, q35, q80, q14, q15, q16, q17, q18, q19, q20, q21, q22, q23], .bool (.lit 0)),
  ([q75, q2, nt q82, q83, q77, q78, q79, q85, q35, q80, q14, q15, q16, q17, q18, q19, q20, q21, q22, q23], .bool (.lit 0)),
  ([q81, q2, nt q82, q83, q77, q78, q79, q85, q35, q80, q14, q15, q16, q17, q18, q19, q20, q21, q22, q23], .bool (.lit 0)),
  ([q26, nt q82, q83, q77, q78, q79, q85, q35, q80, q14, q15, q16, q17, q18, q19, q20, q21, q22, q23], .bool (.lit 0)),
  ([q39, q30, q84, q78, q79, q85, q35, q80, q14, q15, q16, q17, q18, q19, q20, q21, q22, q23], .bool (.lit 1)),
  ([nt q39, q30, q84, q78, q79, q85, q35, q80, q14, q15, q16, q17, q18, q19, q20, q21, q22, q23], .bool (.lit 0)),
  ([q39, q32, q33, q84, q78, q79, q85, q35, q80, q14, q15, q16, q17, q18, q19, q20, q21, q22, q23], .bool (.lit 0)),
  ([nt q39, q32, q33, q84, q78, q79, q85, q35, q80, q14, q15, q16, q17, q18, q19, q20, q21, q22, q23], .bool (.lit 0)),
  ([q39, nt q32, q33, q84, q78, q79, q85, q35, q80, q14, q15, q16, q17, q18, q19, q20, q21, q22, q23], .bool (.lit 0)),
  ([nt q39, nt q32, q33, q84, q78, q79, q85, q35, q80, q14, q15, q16, q17, q18, q19, q20, q21, q22, q23], .bool (.lit 0)),
  ([q75, q2, q76, q77, q78, q79, q86, q35, q80, q14, q15, q16, q17, q18, q19, q20, q21, q22, q23], .bool (.lit 0)),
  ([q81, q2, q76, q77, q78, q79, q86, q35, q80, q14, q15, q16, q17, q18, q19, q20, q21, q22, q23], .bool (.lit 0)),
  ([q26, q76, q77, q78, q79, q86, q35, q80, q14, q15, q16, q17, q18, q19, q20, q21, q22, q23], .bool (.lit 0)),
  ([q75, q2, nt q82, q83, q77, q78, q79, q86, q35, q80, q14, q15, q16, q17, q18, q19, q20, q21, q22, q23], .bool (.lit 0)),
  ([q81, q2, nt q82, q83, q77, q78, q79, q86, q35, q80, q14, q15, q16, q17, q18, q19, q20, q21, q22, q23], .bool (.lit 0)),
  ([q26, nt q82, q83, q77, q78, q79, q86, q35, q80, q14, q15, q16, q17, q18, q19, q20, q21, q22, q23], .bool (.lit 0)),
  ([q39, q30, q84, q78, q79, q86, q35, q80, q14, q15, q16, q17, q18, q19, q20, q21, q22, q23], .bool (.lit 1)),
  ([nt q39, q30, q84, q78, q79, q86, q35, q80, q14, q15, q16, q17, q18, q19, q20, q21, q22, q23], .bool (.lit 0)),
  ([q39, q32, q33, q84, q78, q79, q86, q35, q80, q14, q15, q16, q17, q18, q19, q20, q21, q22, q23], .bool (.lit 0)),
  ([nt q39, q32, q33, q84, q78, q79, q86, q35, q80, q14, q15, q16, q17, q18, q19, q20, q21, q22, q23], .bool (.lit 0)),
  ([q39, nt q32, q33, q84, q78, q79, q86, q35, q80, q14, q15, q16, q17, q18, q19, q20, q21, q22, q23], .bool (.lit 0)),
  ([nt q39, nt q32, q33, q84, q78, q79, q86, q35, q80, q14, q15, q16, q17, q18, q19, q20, q21, q22, q23], .bool (.lit 0)),
  ([q41, q42, q2, q44, q45, q46, q7, q87, q9, q88, q11, q15, q13, q89, q18, q19, q20, q21, q22, q23], .bool (.lit 0)),
  ([q48, q42, q2, q44, q45, q46, q7, q87, q9, q88, q11, q15, q13, q89, q18, q19, q20, q21, q22, q23], .bool (.lit 0)),
  ([q49, q2, q44, q45, q46, q7, q87, q9, q88, q11, q15, q13, q89, q18, q19, q20, q21, q22, q23], .bool (.lit 0)),
  ([q26, q44, q45, q46, q7, q87, q9, q88, q11, q15, q13, q89, q18, q19, q20, q21, q22, q23], .bool (.lit 0)),
  ([q29, q52, q45, q46, q7, q87, q9, q88, q11, q15, q13, q89, q18, q19, q20, q21, q22, q23], .bool (.lit 1)),
  ([nt q29, q52, q45, q46, q7, q87, q9, q88, q11, q15, q13, q89, q18, q19, q20, q21, q22, q23], .bool (.lit 0)),
  ([q2, q44, q45, q46, q35, q87, q9, q88, q11, q15, q13, q89, q18, q19, q20, q21, q22, q23], .bool (.lit 0)),
  ([q26, q44, q45, q46, q35, q87, q9, q88, q11, q15, q13, q89, q18, q19, q20, q21, q22, q23], .bool (.lit 0)),
  ([q29, q52, q45, q46, q35, q87, q9, q88, q11, q15, q13, q89, q18, q19, q20, q21, q22, q23], .bool (.lit 1)),
  ([nt q29, q52, q45, q46, q35, q87, q9, q88, q11, q15, q13, q89, q18, q19, q20, q21, q22, q23], .bool (.lit 0)),
  ([q58, q59, q2, q61, q62, q63, q7, q47, q88, q11, q15, q13, q89, q18, q19, q20, q21, q22, q23], .bool (.lit 0)),
  ([q65, q59, q2, q61, q62, q63, q7, q47, q88, q11, q15, q13, q89, q18, q19, q20, q21, q22, q23], .bool (.lit 0)),
  ([q66, q2, q61, q62, q63, q7, q47, q88, q11, q15, q13, q89, q18, q19, q20, q21, q22, q23], .bool (.lit 0)),
  ([q26, q61, q62, q63, q7, q47, q88, q11, q15, q13, q89, q18, q19, q20, q21, q22, q23], .bool (.lit 0)),
  ([q29, q69, q62, q63, q7, q47, q88, q11, q15, q13, q89, q18, q19, q20, q21, q22, q23], .bool (.lit 1)),
  ([nt q29, q69, q62, q63, q7, q47, q88, q11, q15, q13, q89, q18, q19, q20, q21, q22, q23], .bool (.lit 0)),
  ([q58, q61, q62, q63, q35, q47, q88, q11, q15, q13, q89, q18, q19, q20, q21, q22, q23], .bool (.lit 0)),
  ([q65, q61, q62, q63, q35, q47, q88, q11, q15, q13, q89, q18, q19, q20, q21, q22, q23], .bool (.lit 0)),
  ([q29, q69, q62, q63, q35, q47, q88, q11, q15, q13, q89, q18, q19, q20, q21, q22, q23], .bool (.lit 1)),
  ([nt q29, q69, q62, q63, q35, q47, q88, q11, q15, q13, q89, q18, q19, q20, q21, q22, q23], .bool (.lit 0)),
  ([q90, q75, q2, q77, q78, q79, q7, q64, q15, q13, q89, q18, q19, q20, q21, q22, q23], .bool (.lit 0)),
  ([q91, q75, q2, q77, q78, q79, q7, q64, q15, q13, q89, q18, q19, q20, q21, q22, q23], .bool (.lit 0)),
  ([q81, q2, q77, q78, q79, q7, q64, q15, q13, q89, q18, q19, q20, q21, q22, q23], .bool (.lit 0)),
  ([q26, q77, q78, q79, q7, q64, q15, q13, q89, q18, q19, q20, q21, q22, q23], .bool (.lit 0)),
  ([q29, q84, q78, q79, q7, q64, q15, q13, q89, q18, q19, q20, q21, q22, q23], .bool (.lit 1)),
  ([nt q29, q84, q78, q79, q7, q64, q15, q13, q89, q18, q19, q20, q21, q22, q23], .bool (.lit 0)),
  ([q77, q78, q79, q35, q64, q15, q13, q89, q18, q19, q20, q21, q22, q23], .bool (.lit 0)),
  ([q29, q84, q78, q79, q35, q64, q15, q13, q89, q18, q19, q20, q21, q22, q23], .bool (.lit 1)),
  ([nt q29, q84, q78, q79, q35, q64, q15, q13, q89, q18, q19, q20, q21, q22, q23], .bool (.lit 0)),
  ([q92, q2, q93, q94, q95, q7, q80, q89, q18, q19, q20, q21, q22, q23], .bool (.lit 0)),
  ([q96, q2, q93, q94, q95, q7, q80, q89, q18, q19, q20, q21, q22, q23], .bool (.lit 0)),
  ([q26, q93, q94, q95, q7, q80, q89, q18, q19, q20, q21, q22, q23], .bool (.lit 0)),
  ([q29, q97, q94, q95, q7, q80, q89, q18, q19, q20, q21, q22, q23], .bool (.lit 1)),
  ([nt q29, q97, q94, q95, q7, q80, q89, q18, q19, q20, q21, q22, q23], .bool (.lit 0)),
  ([q93, q94, q95, q35, q80, q89, q18, q19, q20, q21, q22, q23], .bool (.lit 0)),
  ([q39, q97, q94, q95, q35, q80, q89, q18, q19, q20, q21, q22, q23], .bool (.lit 1)),
  ([nt q39, q97, q94, q95, q35, q80, q89, q18, q19, q20, q21, q22, q23], .bool (.lit 0))]
set_option maxRecDepth 100000 in
theorem lawRan : runOf Try.prog noOracle looped (bodies fns) [] 4000 10 [some .i64, some .i64, some .i64] [.bin .le (.lit 0) (.bin .emod (.var 2) (.lit 16)), .bin .le (.bin .emod (.var 2) (.lit 16)) (.lit 3)] = some lawR := by kernel_rfl
end Go.Proofs.Ytjgobpmhdeancaa.RunTablePutsA
