/- The ways of the code through numbers, and that the code takes no other. No condition. -/
import Derived.Test.YtjgobpmhdeancaaFns
import Derived.Test.YtjgobpmhdeancaaHs
import Derived.KernelRfl
namespace Go.Proofs.Ytjgobpmhdeancaa.RunTablePutsB
open Go Go.Sx 

def nt (e : E) : E := .un .bnot e
def q0 : E := (.bin .lt (.var 12) (.bin .add (.un (.wrap .u8) (.var 1)) (.bin .emod (.var 2) (.lit 16))))
def q1 : E := (.bin .le (.un (.wrap .u8) (.var 1)) (.var 12))
def q2 : E := (.bin .le (.bin .add (.un (.wrap .u8) (.var 1)) (.bin .emod (.var 2) (.lit 16))) (.un (.wrap .u8) (.var 0)))
def q3 : E := (.bin .le (.bin .mul (.un (.wrap .u8) (.var 0)) (.lit 1)) (.var 12))
def q4 : E := (.bin .lt (.var 12) (.un (.wrap .u8) (.var 0)))
def q5 : E := (.bin .le (.lit 0) (.var 12))
def q6 : E := (.bin .le (.var 12) (.un (.wrap .u8) (.var 0)))
def q7 : E := (.bin .lt (.bin .mul (.un (.wrap .u8) (.var 0)) (.lit 1)) (.un (.wrap .u8) (.var 1)))
def q8 : E := (.bin .le (.lit 6) (.var 11))
def q9 : E := (.bin .lt (.lit 5) (.bin .emod (.var 2) (.lit 16)))
def q10 : E := (.bin .le (.lit 5) (.var 10))
def q11 : E := (.bin .lt (.lit 4) (.bin .emod (.var 2) (.lit 16)))
def q12 : E := (.bin .le (.lit 4) (.var 9))
def q13 : E := (.bin .le (.lit 3) (.var 8))
def q14 : E := (.bin .le (.lit 2) (.var 7))
def q15 : E := (.bin .le (.lit 1) (.var 6))
def q16 : E := (.bin .le (.bin .mul (.un (.wrap .u8) (.var 0)) (.lit 1)) (.var 5))
def q17 : E := (.bin .le (.lit 1) (.var 5))
def q18 : E := (.bin .le (.var 5) (.bin .mul (.un (.wrap .u8) (.var 0)) (.lit 1)))
def q19 : E := (.bin .le (.lit 1) (.bin .mul (.un (.wrap .u8) (.var 0)) (.lit 1)))
def q20 : E := (.bin .le (.lit 3) (.var 4))
def q21 : E := (.bin .le (.lit 3) (.var 3))
def q22 : E := (.bin .le (.lit 1) (.var 3))
def q23 : E := (.bin .le (.var 3) (.lit 3))
def q24 : E := (.bin .le (.lit 4) (.bin .emod (.var 2) (.lit 16)))
def q25 : E := (.bin .le (.bin .emod (.var 2) (.lit 16)) (.lit 6))
def q26 : E := (.bin .le (.bin .add (.un (.wrap .u8) (.var 1)) (.bin .emod (.var 2) (.lit 16))) (.var 12))
def q27 : E := (.bin .lt (.var 12) (.un (.wrap .u8) (.var 1)))
def q28 : E := (.bin .lt (.un (.wrap .u8) (.var 0)) (.bin .add (.un (.wrap .u8) (.var 1)) (.bin .emod (.var 2) (.lit 16))))
def q29 : E := (.bin .eq (.ite (.bin .and (.bin .le (.lit 0) (.var 12)) (.bin .lt (.var 12) (.var 5))) (.lit (-1)) (.lit 0)) (.lit (-1)))
def q30 : E := (.bin .lt (.var 12) (.bin .mul (.un (.wrap .u8) (.var 0)) (.lit 1)))
def q31 : E := (.bin .eq (.un .bnot (.un .bnot (.lit 0))) (.bin .le (.bin .add (.un (.wrap .u8) (.var 1)) (.bin .emod (.var 2) (.lit 16))) (.un (.wrap .u8) (.var 0))))
def q32 : E := (.bin .le (.bin .mul (.un (.wrap .u8) (.var 0)) (.lit 1)) (.un (.wrap .u8) (.var 0)))
def q33 : E := (.bin .le (.un (.wrap .u8) (.var 0)) (.var 12))
def q34 : E := (.bin .eq (.ite (.bin .and (.bin .le (.lit 0) (.un (.wrap .u8) (.var 0))) (.bin .lt (.un (.wrap .u8) (.var 0)) (.var 5))) (.lit (-1)) (.lit 0)) (.lit (-1)))
def q35 : E := (.bin .lt (.un (.wrap .u8) (.var 0)) (.bin .mul (.un (.wrap .u8) (.var 0)) (.lit 1)))
def q36 : E := (.bin .lt (.bin .sub (.bin .mul (.un (.wrap .u8) (.var 0)) (.lit 1)) (.un (.wrap .u8) (.var 1))) (.lit 6))
def q37 : E := (.bin .le (.un (.wrap .u8) (.var 1)) (.bin .mul (.un (.wrap .u8) (.var 0)) (.lit 1)))
def q38 : E := (.bin .le (.lit 6) (.bin .sub (.bin .mul (.un (.wrap .u8) (.var 0)) (.lit 1)) (.un (.wrap .u8) (.var 1))))
def q39 : E := (.bin .eq (.ite (.bin .and (.bin .le (.bin .sub (.lit 5) (.bin .sub (.lit 0) (.un (.wrap .u8) (.var 1)))) (.var 12)) (.bin .lt (.var 12) (.bin .sub (.lit 6) (.bin .sub (.lit 0) (.un (.wrap .u8) (.var 1)))))) (.lit 105) (.ite (.bin .and (.bin .le (.bin .sub (.lit 4) (.bin .sub (.lit 0) (.un (.wrap .u8) (.var 1)))) (.var 12)) (.bin .lt (.var 12) (.bin .sub (.lit 5) (.bin .sub (.lit 0) (.un (.wrap .u8) (.var 1)))))) (.lit 104) (.ite (.bin .and (.bin .le (.bin .sub (.lit 3) (.bin .sub (.lit 0) (.un (.wrap .u8) (.var 1)))) (.var 12)) (.bin .lt (.var 12) (.bin .sub (.lit 4) (.bin .sub (.lit 0) (.un (.wrap .u8) (.var 1)))))) (.lit 103) (.ite (.bin .and (.bin .le (.bin .sub (.lit 2) (.bin .sub (.lit 0) (.un (.wrap .u8) (.var 1)))) (.var 12)) (.bin .lt (.var 12) (.bin .sub (.lit 3) (.bin .sub (.lit 0) (.un (.wrap .u8) (.var 1)))))) (.lit 102) (.ite (.bin .and (.bin .le (.bin .sub (.lit 1) (.bin .sub (.lit 0) (.un (.wrap .u8) (.var 1)))) (.var 12)) (.bin .lt (.var 12) (.bin .sub (.lit 2) (.bin .sub (.lit 0) (.un (.wrap .u8) (.var 1)))))) (.lit 101) (.ite (.bin .and (.bin .le (.bin .sub (.lit 0) (.bin .sub (.lit 0) (.un (.wrap .u8) (.var 1)))) (.var 12)) (.bin .lt (.var 12) (.bin .sub (.lit 1) (.bin .sub (.lit 0) (.un (.wrap .u8) (.var 1)))))) (.lit 100) (.ite (.bin .and (.bin .le (.un (.wrap .u8) (.var 1)) (.var 12)) (.bin .lt (.var 12) (.bin .add (.un (.wrap .u8) (.var 1)) (.lit 6)))) (.lit 0) (.ite (.bin .and (.bin .le (.lit 0) (.var 12)) (.bin .lt (.var 12) (.var 5))) (.lit (-1)) (.lit 0))))))))) (.lit (-1)))
def q40 : E := (.bin .eq (.ite (.bin .and (.bin .le (.bin .sub (.lit 5) (.bin .sub (.lit 0) (.un (.wrap .u8) (.var 1)))) (.var 12)) (.bin .lt (.var 12) (.bin .sub (.lit 6) (.bin .sub (.lit 0) (.un (.wrap .u8) (.var 1)))))) (.lit 105) (.ite (.bin .and (.bin .le (.bin .sub (.lit 4) (.bin .sub (.lit 0) (.un (.wrap .u8) (.var 1)))) (.var 12)) (.bin .lt (.var 12) (.bin .sub (.lit 5) (.bin .sub (.lit 0) (.un (.wrap .u8) (.var 1)))))) (.lit 104) (.ite (.bin .and (.bin .le (.bin .sub (.lit 3) (.bin .sub (.lit 0) (.un (.wrap .u8) (.var 1)))) (.var 12)) (.bin .lt (.var 12) (.bin .sub (.lit 4) (.bin .sub (.lit 0) (.un (.wrap .u8) (.var 1)))))) (.lit 103) (.ite (.bin .and (.bin .le (.bin .sub (.lit 2) (.bin .sub (.lit 0) (.un (.wrap .u8) (.var 1)))) (.var 12)) (.bin .lt (.var 12) (.bin .sub (.lit 3) (.bin .sub (.lit 0) (.un (.wrap .u8) (.var 1)))))) (.lit 102) (.ite (.bin .and (.bin .le (.bin .sub (.lit 1) (.bin .sub (.lit 0) (.un (.wrap .u8) (.var 1)))) (.var 12)) (.bin .lt (.var 12) (.bin .sub (.lit 2) (.bin .sub (.lit 0) (.un (.wrap .u8) (.var 1)))))) (.lit 101) (.ite (.bin .and (.bin .le (.bin .sub (.lit 0) (.bin .sub (.lit 0) (.un (.wrap .u8) (.var 1)))) (.var 12)) (.bin .lt (.var 12) (.bin .sub (.lit 1) (.bin .sub (.lit 0) (.un (.wrap .u8) (.var 1)))))) (.lit 100) (.ite (.bin .and (.bin .le (.un (.wrap .u8) (.var 1)) (.var 12)) (.bin .lt (.var 12) (.bin .add (.un (.wrap .u8) (.var 1)) (.lit 6)))) (.lit 0) (.ite (.bin .and (.bin .le (.lit 0) (.var 12)) (.bin .lt (.var 12) (.var 5))) (.lit (-1)) (.lit 0))))))))) (.bin .add (.bin .sub (.var 12) (.un (.wrap .u8) (.var 1))) (.lit 100)))
def q41 : E := (.bin .eq (.un .bnot (.un .bnot (.lit 1))) (.bin .le (.bin .add (.un (.wrap .u8) (.var 1)) (.bin .emod (.var 2) (.lit 16))) (.un (.wrap .u8) (.var 0))))
def q42 : E := (.bin .eq (.ite (.bin .and (.bin .le (.bin .sub (.lit 5) (.bin .sub (.lit 0) (.un (.wrap .u8) (.var 1)))) (.un (.wrap .u8) (.var 0))) (.bin .lt (.un (.wrap .u8) (.var 0)) (.bin .sub (.lit 6) (.bin .sub (.lit 0) (.un (.wrap .u8) (.var 1)))))) (.lit 105) (.ite (.bin .and (.bin .le (.bin .sub (.lit 4) (.bin .sub (.lit 0) (.un (.wrap .u8) (.var 1)))) (.un (.wrap .u8) (.var 0))) (.bin .lt (.un (.wrap .u8) (.var 0)) (.bin .sub (.lit 5) (.bin .sub (.lit 0) (.un (.wrap .u8) (.var 1)))))) (.lit 104) (.ite (.bin .and (.bin .le (.bin .sub (.lit 3) (.bin .sub (.lit 0) (.un (.wrap .u8) (.var 1)))) (.un (.wrap .u8) (.var 0))) (.bin .lt (.un (.wrap .u8) (.var 0)) (.bin .sub (.lit 4) (.bin .sub (.lit 0) (.un (.wrap .u8) (.var 1)))))) (.lit 103) (.ite (.bin .and (.bin .le (.bin .sub (.lit 2) (.bin .sub (.lit 0) (.un (.wrap .u8) (.var 1)))) (.un (.wrap .u8) (.var 0))) (.bin .lt (.un (.wrap .u8) (.var 0)) (.bin .sub (.lit 3) (.bin .sub (.lit 0) (.un (.wrap .u8) (.var 1)))))) (.lit 102) (.ite (.bin .and (.bin .le (.bin .sub (.lit 1) (.bin .sub (.lit 0) (.un (.wrap .u8) (.var 1)))) (.un (.wrap .u8) (.var 0))) (.bin .lt (.un (.wrap .u8) (.var 0)) (.bin .sub (.lit 2) (.bin .sub (.lit 0) (.un (.wrap .u8) (.var 1)))))) (.lit 101) (.ite (.bin .and (.bin .le (.bin .sub (.lit 0) (.bin .sub (.lit 0) (.un (.wrap .u8) (.var 1)))) (.un (.wrap .u8) (.var 0))) (.bin .lt (.un (.wrap .u8) (.var 0)) (.bin .sub (.lit 1) (.bin .sub (.lit 0) (.un (.wrap .u8) (.var 1)))))) (.lit 100) (.ite (.bin .and (.bin .le (.un (.wrap .u8) (.var 1)) (.un (.wrap .u8) (.var 0))) (.bin .lt (.un (.wrap .u8) (.var 0)) (.bin .add (.un (.wrap .u8) (.var 1)) (.lit 6)))) (.lit 0) (.ite (.bin .and (.bin .le (.lit 0) (.un (.wrap .u8) (.var 0))) (.bin .lt (.un (.wrap .u8) (.var 0)) (.var 5))) (.lit (-1)) (.lit 0))))))))) (.lit (-1)))
def q43 : E := (.bin .lt (.var 11) (.bin .add (.un (.wrap .u8) (.var 1)) (.bin .emod (.var 2) (.lit 16))))
def q44 : E := (.bin .le (.un (.wrap .u8) (.var 1)) (.var 11))
def q45 : E := (.bin .le (.bin .mul (.un (.wrap .u8) (.var 0)) (.lit 1)) (.var 11))
def q46 : E := (.bin .lt (.var 11) (.un (.wrap .u8) (.var 0)))
def q47 : E := (.bin .le (.lit 0) (.var 11))
def q48 : E := (.bin .le (.var 11) (.un (.wrap .u8) (.var 0)))
def q49 : E := (.bin .le (.bin .emod (.var 2) (.lit 16)) (.lit 5))
def q50 : E := (.bin .le (.bin .add (.un (.wrap .u8) (.var 1)) (.bin .emod (.var 2) (.lit 16))) (.var 11))
def q51 : E := (.bin .lt (.var 11) (.un (.wrap .u8) (.var 1)))
def q52 : E := (.bin .eq (.ite (.bin .and (.bin .le (.lit 0) (.var 11)) (.bin .lt (.var 11) (.var 5))) (.lit (-1)) (.lit 0)) (.lit (-1)))
def q53 : E := (.bin .lt (.var 11) (.bin .mul (.un (.wrap .u8) (.var 0)) (.lit 1)))
def q54 : E := (.bin .le (.un (.wrap .u8) (.var 0)) (.var 11))
def q55 : E := (.bin .lt (.bin .sub (.bin .mul (.un (.wrap .u8) (.var 0)) (.lit 1)) (.un (.wrap .u8) (.var 1))) (.lit 5))
def q56 : E := (.bin .le (.lit 5) (.bin .sub (.bin .mul (.un (.wrap .u8) (.var 0)) (.lit 1)) (.un (.wrap .u8) (.var 1))))
def q57 : E := (.bin .eq (.ite (.bin .and (.bin .le (.bin .sub (.lit 4) (.bin .sub (.lit 0) (.un (.wrap .u8) (.var 1)))) (.var 11)) (.bin .lt (.var 11) (.bin .sub (.lit 5) (.bin .sub (.lit 0) (.un (.wrap .u8) (.var 1)))))) (.lit 104) (.ite (.bin .and (.bin .le (.bin .sub (.lit 3) (.bin .sub (.lit 0) (.un (.wrap .u8) (.var 1)))) (.var 11)) (.bin .lt (.var 11) (.bin .sub (.lit 4) (.bin .sub (.lit 0) (.un (.wrap .u8) (.var 1)))))) (.lit 103) (.ite (.bin .and (.bin .le (.bin .sub (.lit 2) (.bin .sub (.lit 0) (.un (.wrap .u8) (.var 1)))) (.var 11)) (.bin .lt (.var 11) (.bin .sub (.lit 3) (.bin .sub (.lit 0) (.un (.wrap .u8) (.var 1)))))) (.lit 102) (.ite (.bin .and (.bin .le (.bin .sub (.lit 1) (.bin .sub (.lit 0) (.un (.wrap .u8) (.var 1)))) (.var 11)) (.bin .lt (.var 11) (.bin .sub (.lit 2) (.bin .sub (.lit 0) (.un (.wrap .u8) (.var 1)))))) (.lit 101) (.ite (.bin .and (.bin .le (.bin .sub (.lit 0) (.bin .sub (.lit 0) (.un (.wrap .u8) (.var 1)))) (.var 11)) (.bin .lt (.var 11) (.bin .sub (.lit 1) (.bin .sub (.lit 0) (.un (.wrap .u8) (.var 1)))))) (.lit 100) (.ite (.bin .and (.bin .le (.un (.wrap .u8) (.var 1)) (.var 11)) (.bin .lt (.var 11) (.bin .add (.un (.wrap .u8) (.var 1)) (.lit 5)))) (.lit 0) (.ite (.bin .and (.bin .le (.lit 0) (.var 11)) (.bin .lt (.var 11) (.var 5))) (.lit (-1)) (.lit 0)))))))) (.lit (-1)))
def q58 : E := (.bin .eq (.ite (.bin .and (.bin .le (.bin .sub (.lit 4) (.bin .sub (.lit 0) (.un (.wrap .u8) (.var 1)))) (.var 11)) (.bin .lt (.var 11) (.bin .sub (.lit 5) (.bin .sub (.lit 0) (.un (.wrap .u8) (.var 1)))))) (.lit 104) (.ite (.bin .and (.bin .le (.bin .sub (.lit 3) (.bin .sub (.lit 0) (.un (.wrap .u8) (.var 1)))) (.var 11)) (.bin .lt (.var 11) (.bin .sub (.lit 4) (.bin .sub (.lit 0) (.un (.wrap .u8) (.var 1)))))) (.lit 103) (.ite (.bin .and (.bin .le (.bin .sub (.lit 2) (.bin .sub (.lit 0) (.un (.wrap .u8) (.var 1)))) (.var 11)) (.bin .lt (.var 11) (.bin .sub (.lit 3) (.bin .sub (.lit 0) (.un (.wrap .u8) (.var 1)))))) (.lit 102) (.ite (.bin .and (.bin .le (.bin .sub (.lit 1) (.bin .sub (.lit 0) (.un (.wrap .u8) (.var 1)))) (.var 11)) (.bin .lt (.var 11) (.bin .sub (.lit 2) (.bin .sub (.lit 0) (.un (.wrap .u8) (.var 1)))))) (.lit 101) (.ite (.bin .and (.bin .le (.bin .sub (.lit 0) (.bin .sub (.lit 0) (.un (.wrap .u8) (.var 1)))) (.var 11)) (.bin .lt (.var 11) (.bin .sub (.lit 1) (.bin .sub (.lit 0) (.un (.wrap .u8) (.var 1)))))) (.lit 100) (.ite (.bin .and (.bin .le (.un (.wrap .u8) (.var 1)) (.var 11)) (.bin .lt (.var 11) (.bin .add (.un (.wrap .u8) (.var 1)) (.lit 5)))) (.lit 0) (.ite (.bin .and (.bin .le (.lit 0) (.var 11)) (.bin .lt (.var 11) (.var 5))) (.lit (-1)) (.lit 0)))))))) (.bin .add (.bin .sub (.var 11) (.un (.wrap .u8) (.var 1))) (.lit 100)))
def q59 : E := (.bin .eq (.ite (.bin .and (.bin .le (.bin .sub (.lit 4) (.bin .sub (.lit 0) (.un (.wrap .u8) (.var 1)))) (.un (.wrap .u8) (.var 0))) (.bin .lt (.un (.wrap .u8) (.var 0)) (.bin .sub (.lit 5) (.bin .sub (.lit 0) (.un (.wrap .u8) (.var 1)))))) (.lit 104) (.ite (.bin .and (.bin .le (.bin .sub (.lit 3) (.bin .sub (.lit 0) (.un (.wrap .u8) (.var 1)))) (.un (.wrap .u8) (.var 0))) (.bin .lt (.un (.wrap .u8) (.var 0)) (.bin .sub (.lit 4) (.bin .sub (.lit 0) (.un (.wrap .u8) (.var 1)))))) (.lit 103) (.ite (.bin .and (.bin .le (.bin .sub (.lit 2) (.bin .sub (.lit 0) (.un (.wrap .u8) (.var 1)))) (.un (.wrap .u8) (.var 0))) (.bin .lt (.un (.wrap .u8) (.var 0)) (.bin .sub (.lit 3) (.bin .sub (.lit 0) (.un (.wrap .u8) (.var 1)))))) (.lit 102) (.ite (.bin .and (.bin .le (.bin .sub (.lit 1) (.bin .sub (.lit 0) (.un (.wrap .u8) (.var 1)))) (.un (.wrap .u8) (.var 0))) (.bin .lt (.un (.wrap .u8) (.var 0)) (.bin .sub (.lit 2) (.bin .sub (.lit 0) (.un (.wrap .u8) (.var 1)))))) (.lit 101) (.ite (.bin .and (.bin .le (.bin .sub (.lit 0) (.bin .sub (.lit 0) (.un (.wrap .u8) (.var 1)))) (.un (.wrap .u8) (.var 0))) (.bin .lt (.un (.wrap .u8) (.var 0)) (.bin .sub (.lit 1) (.bin .sub (.lit 0) (.un (.wrap .u8) (.var 1)))))) (.lit 100) (.ite (.bin .and (.bin .le (.un (.wrap .u8) (.var 1)) (.un (.wrap .u8) (.var 0))) (.bin .lt (.un (.wrap .u8) (.var 0)) (.bin .add (.un (.wrap .u8) (.var 1)) (.lit 5)))) (.lit 0) (.ite (.bin .and (.bin .le (.lit 0) (.un (.wrap .u8) (.var 0))) (.bin .lt (.un (.wrap .u8) (.var 0)) (.var 5))) (.lit (-1)) (.lit 0)))))))) (.lit (-1)))
def q60 : E := (.bin .lt (.var 10) (.bin .add (.un (.wrap .u8) (.var 1)) (.bin .emod (.var 2) (.lit 16))))
def q61 : E := (.bin .le (.un (.wrap .u8) (.var 1)) (.var 10))
def q62 : E := (.bin .le (.bin .mul (.un (.wrap .u8) (.var 0)) (.lit 1)) (.var 10))
def q63 : E := (.bin .lt (.var 10) (.un (.wrap .u8) (.var 0)))
def q64 : E := (.bin .le (.lit 0) (.var 10))
def q65 : E := (.bin .le (.var 10) (.un (.wrap .u8) (.var 0)))
def q66 : E := (.bin .le (.bin .emod (.var 2) (.lit 16)) (.lit 4))
def q67 : E := (.bin .le (.bin .add (.un (.wrap .u8) (.var 1)) (.bin .emod (.var 2) (.lit 16))) (.var 10))
def q68 : E := (.bin .lt (.var 10) (.un (.wrap .u8) (.var 1)))
def q69 : E := (.bin .eq (.ite (.bin .and (.bin .le (.lit 0) (.var 10)) (.bin .lt (.var 10) (.var 5))) (.lit (-1)) (.lit 0)) (.lit (-1)))
def q70 : E := (.bin .lt (.var 10) (.bin .mul (.un (.wrap .u8) (.var 0)) (.lit 1)))
def q71 : E := (.bin .le (.un (.wrap .u8) (.var 0)) (.var 10))
def q72 : E := (.bin .lt (.bin .sub (.bin .mul (.un (.wrap .u8) (.var 0)) (.lit 1)) (.un (.wrap .u8) (.var 1))) (.lit 4))
def q73 : E := (.bin .le (.lit 4) (.bin .sub (.bin .mul (.un (.wrap .u8) (.var 0)) (.lit 1)) (.un (.wrap .u8) (.var 1))))
def q74 : E := (.bin .eq (.ite (.bin .and (.bin .le (.bin .sub (.lit 3) (.bin .sub (.lit 0) (.un (.wrap .u8) (.var 1)))) (.var 10)) (.bin .lt (.var 10) (.bin .sub (.lit 4) (.bin .sub (.lit 0) (.un (.wrap .u8) (.var 1)))))) (.lit 103) (.ite (.bin .and (.bin .le (.bin .sub (.lit 2) (.bin .sub (.lit 0) (.un (.wrap .u8) (.var 1)))) (.var 10)) (.bin .lt (.var 10) (.bin .sub (.lit 3) (.bin .sub (.lit 0) (.un (.wrap .u8) (.var 1)))))) (.lit 102) (.ite (.bin .and (.bin .le (.bin .sub (.lit 1) (.bin .sub (.lit 0) (.un (.wrap .u8) (.var 1)))) (.var 10)) (.bin .lt (.var 10) (.bin .sub (.lit 2) (.bin .sub (.lit 0) (.un (.wrap .u8) (.var 1)))))) (.lit 101) (.ite (.bin .and (.bin .le (.bin .sub (.lit 0) (.bin .sub (.lit 0) (.un (.wrap .u8) (.var 1)))) (.var 10)) (.bin .lt (.var 10) (.bin .sub (.lit 1) (.bin .sub (.lit 0) (.un (.wrap .u8) (.var 1)))))) (.lit 100) (.ite (.bin .and (.bin .le (.un (.wrap .u8) (.var 1)) (.var 10)) (.bin .lt (.var 10) (.bin .add (.un (.wrap .u8) (.var 1)) (.lit 4)))) (.lit 0) (.ite (.bin .and (.bin .le (.lit 0) (.var 10)) (.bin .lt (.var 10) (.var 5))) (.lit (-1)) (.lit 0))))))) (.lit (-1)))
def q75 : E := (.bin .eq (.ite (.bin .and (.bin .le (.bin .sub (.lit 3) (.bin .sub (.lit 0) (.un (.wrap .u8) (.var 1)))) (.var 10)) (.bin .lt (.var 10) (.bin .sub (.lit 4) (.bin .sub (.lit 0) (.un (.wrap .u8) (.var 1)))))) (.lit 103) (.ite (.bin .and (.bin .le (.bin .sub (.lit 2) (.bin .sub (.lit 0) (.un (.wrap .u8) (.var 1)))) (.var 10)) (.bin .lt (.var 10) (.bin .sub (.lit 3) (.bin .sub (.lit 0) (.un (.wrap .u8) (.var 1)))))) (.lit 102) (.ite (.bin .and (.bin .le (.bin .sub (.lit 1) (.bin .sub (.lit 0) (.un (.wrap .u8) (.var 1)))) (.var 10)) (.bin .lt (.var 10) (.bin .sub (.lit 2) (.bin .sub (.lit 0) (.un (.wrap .u8) (.var 1)))))) (.lit 101) (.ite (.bin .and (.bin .le (.bin .sub (.lit 0) (.bin .sub (.lit 0) (.un (.wrap .u8) (.var 1)))) (.var 10)) (.bin .lt (.var 10) (.bin .sub (.lit 1) (.bin .sub (.lit 0) (.un (.wrap .u8) (.var 1)))))) (.lit 100) (.ite (.bin .and (.bin .le (.un (.wrap .u8) (.var 1)) (.var 10)) (.bin .lt (.var 10) (.bin .add (.un (.wrap .u8) (.var 1)) (.lit 4)))) (.lit 0) (.ite (.bin .and (.bin .le (.lit 0) (.var 10)) (.bin .lt (.var 10) (.var 5))) (.lit (-1)) (.lit 0))))))) (.bin .add (.bin .sub (.var 10) (.un (.wrap .u8) (.var 1))) (.lit 100)))
def q76 : E := (.bin .eq (.ite (.bin .and (.bin .le (.bin .sub (.lit 3) (.bin .sub (.lit 0) (.un (.wrap .u8) (.var 1)))) (.un (.wrap .u8) (.var 0))) (.bin .lt (.un (.wrap .u8) (.var 0)) (.bin .sub (.lit 4) (.bin .sub (.lit 0) (.un (.wrap .u8) (.var 1)))))) (.lit 103) (.ite (.bin .and (.bin .le (.bin .sub (.lit 2) (.bin .sub (.lit 0) (.un (.wrap .u8) (.var 1)))) (.un (.wrap .u8) (.var 0))) (.bin .lt (.un (.wrap .u8) (.var 0)) (.bin .sub (.lit 3) (.bin .sub (.lit 0) (.un (.wrap .u8) (.var 1)))))) (.lit 102) (.ite (.bin .and (.bin .le (.bin .sub (.lit 1) (.bin .sub (.lit 0) (.un (.wrap .u8) (.var 1)))) (.un (.wrap .u8) (.var 0))) (.bin .lt (.un (.wrap .u8) (.var 0)) (.bin .sub (.lit 2) (.bin .sub (.lit 0) (.un (.wrap .u8) (.var 1)))))) (.lit 101) (.ite (.bin .and (.bin .le (.bin .sub (.lit 0) (.bin .sub (.lit 0) (.un (.wrap .u8) (.var 1)))) (.un (.wrap .u8) (.var 0))) (.bin .lt (.un (.wrap .u8) (.var 0)) (.bin .sub (.lit 1) (.bin .sub (.lit 0) (.un (.wrap .u8) (.var 1)))))) (.lit 100) (.ite (.bin .and (.bin .le (.un (.wrap .u8) (.var 1)) (.un (.wrap .u8) (.var 0))) (.bin .lt (.un (.wrap .u8) (.var 0)) (.bin .add (.un (.wrap .u8) (.var 1)) (.lit 4)))) (.lit 0) (.ite (.bin .and (.bin .le (.lit 0) (.un (.wrap .u8) (.var 0))) (.bin .lt (.un (.wrap .u8) (.var 0)) (.var 5))) (.lit (-1)) (.lit 0))))))) (.lit (-1)))
def q77 : E := (.bin .le (.lit 6) (.var 10))
def q78 : E := (.bin .le (.lit 5) (.var 9))
def q79 : E := (.bin .le (.lit 4) (.var 8))
def q80 : E := (.bin .le (.lit 3) (.var 7))
def q81 : E := (.bin .le (.lit 2) (.var 6))
def q82 : E := (.bin .lt (.bin .mul (.un (.wrap .u8) (.var 0)) (.lit 1)) (.lit 1))
def q83 : E := (.bin .lt (.var 9) (.bin .add (.un (.wrap .u8) (.var 1)) (.bin .emod (.var 2) (.lit 16))))
def q84 : E := (.bin .le (.un (.wrap .u8) (.var 1)) (.var 9))
def q85 : E := (.bin .lt (.var 9) (.un (.wrap .u8) (.var 0)))
def q86 : E := (.bin .le (.lit 0) (.var 9))
def q87 : E := (.bin .le (.var 9) (.un (.wrap .u8) (.var 0)))
def q88 : E := (.bin .le (.bin .add (.un (.wrap .u8) (.var 1)) (.bin .emod (.var 2) (.lit 16))) (.var 9))
def q89 : E := (.bin .lt (.var 9) (.un (.wrap .u8) (.var 1)))
def q90 : E := (.bin .le (.un (.wrap .u8) (.var 0)) (.var 9))
def lawR : List Leaf := [
  ([q0, q1, q2, q3, q4, q5, q6, q7, q8, q9, q10, q11, q12, q13, q14, q15, q16, q17, q18, q19, q20, q21, q22, q23, q24, q25], .bool (.lit 0)),
  ([q26, q1, q2, q3, q4, q5, q6, q7, q8, q9, q10, q11, q12, q13, q14, q15, q16, q17, q18, q19, q20, q21, q22, q23, q24, q25], .bool (.lit 0)),
  ([q27, q2, q3, q4, q5, q6, q7, q8, q9, q10, q11, q12, q13, q14, q15, q16, q17, q18, q19, q20, q21, q22, q23, q24, q25], .bool (.lit 0)),
  ([q28, q3, q4, q5, q6, q7, q8, q9, q10, q11, q12, q13, q14, q15, q16, q17, q18, q19, q20, q21, q22, q23, q24, q25], .bool (.lit 0)),
  ([q0, q1, q2, q29, q30, q4, q5, q6, q7, q8, q9, q10, q11, q12, q13, q14, q15, q16, q17, q18, q19, q20, q21, q22, q23, q24, q25], .bool (.lit 0)),
  ([q0, q1, q2, nt q29, q30, q4, q5, q6, q7, q8, q9, q10, q11, q12, q13, q14, q15, q16, q17, q18, q19, q20, q21, q22, q23, q24, q25], .bool (.lit 0)),
  ([q26, q1, q2, nt q29, q30, q4, q5, q6, q7, q8, q9, q10, q11, q12, q13, q14, q15, q16, q17, q18, q19, q20, q21, q22, q23, q24, q25], .bool (.lit 0)),
  ([q27, q2, nt q29, q30, q4, q5, q6, q7, q8, q9, q10, q11, q12, q13, q14, q15, q16, q17, q18, q19, q20, q21, q22, q23, q24, q25], .bool (.lit 0)),
  ([q28, nt q29, q30, q4, q5, q6, q7, q8, q9, q10, q11, q12, q13, q14, q15, q16, q17, q18, q19, q20, q21, q22, q23, q24, q25], .bool (.lit 0)),
  ([q31, q32, q33, q5, q6, q7, q8, q9, q10, q11, q12, q13, q14, q15, q16, q17, q18, q19, q20, q21, q22, q23, q24, q25], .bool (.lit 1)),
  ([nt q31, q32, q33, q5, q6, q7, q8, q9, q10, q11, q12, q13, q14, q15, q16, q17, q18, q19, q20, q21, q22, q23, q24, q25], .bool (.lit 0)),
  ([q31, q34, q35, q33, q5, q6, q7, q8, q9, q10, q11, q12, q13, q14, q15, q16, q17, q18, q19, q20, q21, q22, q23, q24, q25], .bool (.lit 0)),
  ([nt q31, q34, q35, q33, q5, q6, q7, q8, q9, q10, q11, q12, q13, q14, q15, q16, q17, q18, q19, q20, q21, q22, q23, q24, q25], .bool (.lit 0)),
  ([q31, nt q34, q35, q33, q5, q6, q7, q8, q9, q10, q11, q12, q13, q14, q15, q16, q17, q18, q19, q20, q21, q22, q23, q24, q25], .bool (.lit 0)),
  ([nt q31, nt q34, q35, q33, q5, q6, q7, q8, q9, q10, q11, q12, q13, q14, q15, q16, q17, q18, q19, q20, q21, q22, q23, q24, q25], .bool (.lit 0)),
  ([q0, q1, q2, q3, q4, q5, q6, q36, q37, q8, q9, q10, q11, q12, q13, q14, q15, q16, q17, q18, q19, q20, q21, q22, q23, q24, q25], .bool (.lit 0)),
  ([q26, q1, q2, q3, q4, q5, q6, q36, q37, q8, q9, q10, q11, q12, q13, q14, q15, q16, q17, q18, q19, q20, q21, q22, q23, q24, q25], .bool (.lit 0)),
  ([q27, q2, q3, q4, q5, q6, q36, q37, q8, q9, q10, q11, q12, q13, q14, q15, q16, q17, q18, q19, q20, q21, q22, q23, q24, q25], .bool (.lit 0)),
  ([q28, q3, q4, q5, q6, q36, q37, q8, q9, q10, q11, q12, q13, q14, q15, q16, q17, q18, q19, q20, q21, q22, q23, q24, q25], .bool (.lit 0)),
  ([q0, q1, q2, q29, q30, q4, q5, q6, q36, q37, q8, q9, q10, q11, q12, q13, q14, q15, q16, q17, q18, q19, q20, q21, q22, q23, q24, q25], .bool (.lit 0)),
  ([q0, q1, q2, nt q29, q30, q4, q5, q6, q36, q37, q8, q9, q10, q11, q12, q13, q14, q15, q16, q17, q18, q19, q20, q21, q22, q23, q24, q25], .bool (.lit 0)),
  ([q26, q1, q2, nt q29, q30, q4, q5, q6, q36, q37, q8, q9, q10, q11, q12, q13, q14, q15, q16, q17, q18, q19, q20, q21, q22, q23, q24, q25], .bool (.lit 0)),
  ([q27, q2, nt q29, q30, q4, q5, q6, q36, q37, q8, q9, q10, q11, q12, q13, q14, q15, q16, q17, q18, q19, q20, q21, q22, q23, q24, q25], .bool (.lit 0)),
  ([q28, nt q29, q30, q4, q5, q6, q36, q37, q8, q9, q10, q11, q12, q13, q14, q15, q16, q17, q18, q19, q20, q21, q22, q23, q24, q25], .bool (.lit 0)),
  ([q31, q32, q33, q5, q6, q36, q37, q8, q9, q10, q11, q12, q13, q14, q15, q16, q17, q18, q19, q20, q21, q22, q23, q24, q25], .bool (.lit 1)),
  ([nt q31, q32, q33, q5, q6, q36, q37, q8, q9, q10, q11, q12, q13, q14, q15, q16, q17, q18, q19, q20, q21, q22, q23, q24, q25], .bool (.lit 0)),
  ([q31, q34, q35, q33, q5, q6, q36, q37, q8, q9, q10, q11, q12, q13, q14, q15, q16, q17, q18, q19, q20, q21, q22, q23, q24, q25], .bool (.lit 0)),
  ([nt q31, q34, q35, q33, q5, q6, q36, q37, q8, q9, q10, q11, q12, q13, q14, q15, q16, q17, q18, q19, q20, q21, q22, q23, q24, q25], .bool (.lit 0)),
  ([q31, nt q34, q35, q33, q5, q6, q36, q37, q8, q9, q10, q11, q12, q13, q14, q15, q16, q17, q18, q19, q20, q21, q22, q23, q24, q25], .bool (.lit 0)),
  ([nt q31, nt q34, q35, q33, q5, q6, q36, q37, q8, q9, q10, q11, q12, q13, q14, q15, q16, q17, q18, q19, q20, q21, q22, q23, q24, q25], .bool (.lit 0)),
  ([q0, q1, q2, q3, q4, q5, q6, q38, q37, q8, q9, q10, q11, q12, q13, q14, q15, q16, q17, q18, q19, q20, q21, q22, q23, q24, q25], .bool (.lit 0)),
  ([q26, q1, q2, q3, q4, q5, q6, q38, q37, q8, q9, q10, q11, q12, q13, q14, q15, q16, q17, q18, q19, q20, q21, q22, q23, q24, q25], .bool (.lit 0)),
  ([q27, q2, q3, q4, q5, q6, q38, q37, q8, q9, q10, q11, q12, q13, q14, q15, q16, q17, q18, q19, q20, q21, q22, q23, q24, q25], .bool (.lit 0)),
  ([q28, q3, q4, q5, q6, q38, q37, q8, q9, q10, q11, q12, q13, q14, q15, q16, q17, q18, q19, q20, q21, q22, q23, q24, q25], .bool (.lit 0)),
  ([q0, q1, q2, q39, q30, q4, q5, q6, q38, q37, q8, q9, q10, q11, q12, q13, q14, q15, q16, q17, q18, q19, q20, q21, q22, q23, q24, q25], .bool (.lit 0)),
  ([nt q40, q0, q1, q2, nt q39, q30, q4, q5, q6, q38, q37, q8, q9, q10, q11, q12, q13, q14, q15, q16, q17, q18, q19, q20, q21, q22, q23, q24, q25], .bool (.lit 0)),
  ([q26, q1, q2, nt q39, q30, q4, q5, q6, q38, q37, q8, q9, q10, q11, q12, q13, q14, q15, q16, q17, q18, q19, q20, q21, q22, q23, q24, q25], .bool (.lit 0)),
  ([q27, q2, nt q39, q30, q4, q5, q6, q38, q37, q8, q9, q10, q11, q12, q13, q14, q15, q16, q17, q18, q19, q20, q21, q22, q23, q24, q25], .bool (.lit 0)),
  ([q28, nt q39, q30, q4, q5, q6, q38, q37, q8, q9, q10, q11, q12, q13, q14, q15, q16, q17, q18, q19, q20, q21, q22, q23, q24, q25], .bool (.lit 0)),
  ([q41, q32, q33, q5, q6, q38, q37, q8, q9, q10, q11, q12, q13, q14, q15, q16, q17, q18, q19, q20, q21, q22, q23, q24, q25], .bool (.lit 1)),
  ([nt q41, q32, q33, q5, q6, q38, q37, q8, q9, q10, q11, q12, q13, q14, q15, q16, q17, q18, q19, q20, q21, q22, q23, q24, q25], .bool (.lit 0)),
  ([q41, q42, q35, q33, q5, q6, q38, q37, q8, q9, q10, q11, q12, q13, q14, q15, q16, q17, q18, q19, q20, q21, q22, q23, q24, q25], .bool (.lit 0)),
  ([nt q41, q42, q35, q33, q5, q6, q38, q37, q8, q9, q10, q11, q12, q13, q14, q15, q16, q17, q18, q19, q20, q21, q22, q23, q24, q25], .bool (.lit 0)),
  ([q41, nt q42, q35, q33, q5, q6, q38, q37, q8, q9, q10, q11, q12, q13, q14, q15, q16, q17, q18, q19, q20, q21, q22, q23, q24, q25], .bool (.lit 0)),
  ([nt q41, nt q42, q35, q33, q5, q6, q38, q37, q8, q9, q10, q11, q12, q13, q14, q15, q16, q17, q18, q19, q20, q21, q22, q23, q24, q25], .bool (.lit 0)),
  ([q43, q44, q2, q45, q46, q47, q48, q7, q49, q10, q11, q12, q13, q14, q15, q16, q17, q18, q19, q20, q21, q22, q23, q24, q25], .bool (.lit 0)),
  ([q50, q44, q2, q45, q46, q47, q48, q7, q49, q10, q11, q12, q13, q14, q15, q16, q17, q18, q19, q20, q21, q22, q23, q24, q25], .bool (.lit 0)),
  ([q51, q2, q45, q46, q47, q48, q7, q49, q10, q11, q12, q13, q14, q15, q16, q17, q18, q19, q20, q21, q22, q23, q24, q25], .bool (.lit 0)),
  ([q28, q45, q46, q47, q48, q7, q49, q10, q11, q12, q13, q14, q15, q16, q17, q18, q19, q20, q21, q22, q23, q24, q25], .bool (.lit 0)),
  ([q43, q44, q2, q52, q53, q46, q47, q48, q7, q49, q10, q11, q12, q13, q14, q15, q16, q17, q18, q19, q20, q21, q22, q23, q24, q25], .bool (.lit 0)),
  ([q43, q44, q2, nt q52, q53, q46, q47, q48, q7, q49, q10, q11, q12, q13, q14, q15, q16, q17, q18, q19, q20, q21, q22, q23, q24, q25], .bool (.lit 0)),
  ([q50, q44, q2, nt q52, q53, q46, q47, q48, q7, q49, q10, q11, q12, q13, q14, q15, q16, q17, q18, q19, q20, q21, q22, q23, q24, q25], .bool (.lit 0)),
  ([q51, q2, nt q52, q53, q46, q47, q48, q7, q49, q10, q11, q12, q13, q14, q15, q16, q17, q18, q19, q20, q21, q22, q23, q24, q25], .bool (.lit 0)),
  ([q28, nt q52, q53, q46, q47, q48, q7, q49, q10, q11, q12, q13, q14, q15, q16, q17, q18, q19, q20, q21, q22, q23, q24, q25], .bool (.lit 0)),
  ([q31, q32, q54, q47, q48, q7, q49, q10, q11, q12, q13, q14, q15, q16, q17, q18, q19, q20, q21, q22, q23, q24, q25], .bool (.lit 1)),
  ([nt q31, q32, q54, q47, q48, q7, q49, q10, q11, q12, q13, q14, q15, q16, q17, q18, q19, q20, q21, q22, q23, q24, q25], .bool (.lit 0)),
  ([q31, q34, q35, q54, q47, q48, q7, q49, q10, q11, q12, q13, q14, q15, q16, q17, q18, q19, q20, q21, q22, q23, q24, q25], .bool (.lit 0)),
  ([nt q31, q34, q35, q54, q47, q48, q7, q49, q10, q11, q12, q13, q14, q15, q16, q17, q18, q19, q20, q21, q22, q23, q24, q25], .bool (.lit 0)),
  ([q31, nt q34, q35, q54, q47, q48, q7, q49, q10, q11, q12, q13, q14, q15, q16, q17, q18, q19, q20, q21, q22, q23, q24, q25], .bool (.lit 0)),
  ([nt q31, nt q34, q35, q54, q47, q48, q7, q49, q10, q11, q12, q13, q14, q15, q16, q17, q18, q19, q20, q21, q22, q23, q24, q25], .bool (.lit 0)),
  ([q43, q44, q2, q45, q46, q47, q48, q55, q37, q49, q10, q11, q12, q13, q14, q15, q16, q17, q18, q19, q20, q21, q22, q23, q24, q25], .bool (.lit 0)),
  ([q50, q44, q2, q45, q46, q47, q48, q55, q37, q49, q10, q11, q12, q13, q14, q15, q16, q17, q18, q19, q20, q21, q22, q23, q24, q25], .bool (.lit 0)),
  ([q51, q2, q45, q46, q47, q48, q55, q37, q49, q10, q11, q12, q13, q14, q15, q16, q17, q18, q19, q20, q21, q22, q23, q24, q25], .bool (.lit 0)),
  ([q28, q45, q46, q47, q48, q55, q37, q49, q10, q11, q12, q13, q14, q15, q16, q17, q18, q19, q20, q21, q22, q23, q24, q25], .bool (.lit 0)),
  ([q43, q44, q2, q52, q53, q46, q47, q48, q55, q37, q49, q10, q11, q12, q13, q14, q15, q16, q17, q18, q19, q20, q21, q22, q23, q24, q25], .bool (.lit 0)),
  ([q43, q44, q2, nt q52, q53, q46, q47, q48, q55, q37, q49, q10, q11, q12, q13, q14, q15, q16, q17, q18, q19, q20, q21, q22, q23, q24, q25], .bool (.lit 0)),
  ([q50, q44, q2, nt q52, q53, q46, q47, q48, q55, q37, q49, q10, q11, q12, q13, q14, q15, q16, q17, q18, q19, q20, q21, q22, q23, q24, q25], .bool (.lit 0)),
  ([q51, q2, nt q52, q53, q46, q47, q48, q55, q37, q49, q10, q11, q12, q13, q14, q15, q16, q17, q18, q19, q20, q21, q22, q23, q24, q25], .bool (.lit 0)),
  ([q28, nt q52, q53, q46, q47, q48, q55, q37, q49, q10, q11, q12, q13, q14, q15, q16, q17, q18, q19, q20, q21, q22, q23, q24, q25], .bool (.lit 0)),
  ([q31, q32, q54, q47, q48, q55, q37, q49, q10, q11, q12, q13, q14, q15, q16, q17, q18, q19, q20, q21, q22, q23, q24, q25], .bool (.lit 1)),
  ([nt q31, q32, q54, q47, q48, q55, q37, q49, q10, q11, q12, q13, q14, q15, q16, q17, q18, q19, q20, q21, q22, q23, q24, q25], .bool (.lit 0)),
  ([q31, q34, q35, q54, q47, q48, q55, q37, q49, q10, q11, q12, q13, q14, q15, q16, q17, q18, q19, q20, q21, q22, q23, q24, q25], .bool (.lit 0)),
  ([nt q31, q34, q35, q54, q47, q48, q55, q37, q49, q10, q11, q12, q13, q14, q15, q16, q17, q18, q19, q20, q21, q22, q23, q24, q25], .bool (.lit 0)),
  ([q31, nt q34, q35, q54, q47, q48, q55, q37, q49, q10, q11, q12, q13, q14, q15, q16, q17, q18, q19, q20, q21, q22, q23, q24, q25], .bool (.lit 0)),
  ([nt q31, nt q34, q35, q54, q47, q48, q55, q37, q49, q10, q11, q12, q13, q14, q15, q16, q17, q18, q19, q20, q21, q22, q23, q24, q25], .bool (.lit 0)),
  ([q43, q44, q2, q45, q46, q47, q48, q56, q37, q49, q10, q11, q12, q13, q14, q15, q16, q17, q18, q19, q20, q21, q22, q23, q24, q25], .bool (.lit 0)),
  ([q50, q44, q2, q45, q46, q47, q48, q56, q37, q49, q10, q11, q12, q13, q14, q15, q16, q17, q18, q19, q20, q21, q22, q23, q24, q25], .bool (.lit 0)),
  ([q51, q2, q45, q46, q47, q48, q56, q37, q49, q10, q11, q12, q13, q14, q15, q16, q17, q18, q19, q20, q21, q22, q23, q24, q25], .bool (.lit 0)),
  ([q28, q45, q46, q47, q48, q56, q37, q49, q10, q11, q12, q13, q14, q15, q16, q17, q18, q19, q20, q21, q22, q23, q24, q25], .bool (.lit 0)),
  ([q43, q44, q2, q57, q53, q46, q47, q48, q56, q37, q49, q10, q11, q12, q13, q14, q15, q16, q17, q18, q19, q20, q21, q22, q23, q24, q25], .bool (.lit 0)),
  ([nt q58, q43, q44, q2, nt q57, q53, q46, q47, q48, q56, q37, q49, q10, q11, q12, q13, q14, q15, q16, q17, q18, q19, q20, q21, q22, q23, q24, q25], .bool (.lit 0)),
  ([q50, q44, q2, nt q57, q53, q46, q47, q48, q56, q37, q49, q10, q11, q12, q13, q14, q15, q16, q17, q18, q19, q20, q21, q22, q23, q24, q25], .bool (.lit 0)),
  ([q51, q2, nt q57, q53, q46, q47, q48, q56, q37, q49, q10, q11, q12, q13, q14, q15, q16, q17, q18, q19, q20, q21, q22, q23, q24, q25], .bool (.lit 0)),
  ([q28, nt q57, q53, q46, q47, q48, q56, q37, q49, q10, q11, q12, q13, q14, q15, q16, q17, q18, q19, q20, q21, q22, q23, q24, q25], .bool (.lit 0)),
  ([q41, q32, q54, q47, q48, q56, q37, q49, q10, q11, q12, q13, q14, q15, q16, q17, q18, q19, q20, q21, q22, q23, q24, q25], .bool (.lit 1)),
  ([nt q41, q32, q54, q47, q48, q56, q37, q49, q10, q11, q12, q13, q14, q15, q16, q17, q18, q19, q20, q21, q22, q23, q24, q25], .bool (.lit 0)),
  ([q41, q59, q35, q54, q47, q48, q56, q37, q49, q10, q11, q12, q13, q14, q15, q16, q17, q18, q19, q20, q21, q22, q23, q24, q25], .bool (.lit 0)),
  ([nt q41, q59, q35, q54, q47, q48, q56, q37, q49, q10, q11, q12, q13, q14, q15, q16, q17, q18, q19, q20, q21, q22, q23, q24, q25], .bool (.lit 0)),
  ([q41, nt q59, q35, q54, q47, q48, q56, q37, q49, q10, q11, q12, q13, q14, q15, q16, q17, q18, q19, q20, q21, q22, q23, q24, q25], .bool (.lit 0)),
  ([nt q41, nt q59, q35, q54, q47, q48, q56, q37, q49, q10, q11, q12, q13, q14, q15, q16, q17, q18, q19, q20, q21, q22, q23, q24, q25], .bool (.lit 0)),
  ([q60, q61, q2, q62, q63, q64, q65, q7, q66, q12, q13, q14, q15, q16, q17, q18, q19, q20, q21, q22, q23, q24, q25], .bool (.lit 0)),
  ([q67, q61, q2, q62, q63, q64, q65, q7, q66, q12, q13, q14, q15, q16, q17, q18, q19, q20, q21, q22, q23, q24, q25], .bool (.lit 0)),
  ([q68, q2, q62, q63, q64, q65, q7, q66, q12, q13, q14, q15, q16, q17, q18, q19, q20, q21, q22, q23, q24, q25], .bool (.lit 0)),
  ([q28, q62, q63, q64, q65, q7, q66, q12, q13, q14, q15, q16, q17, q18, q19, q20, q21, q22, q23, q24, q25], .bool (.lit 0)),
  ([q60, q61, q2, q69, q70, q63, q64, q65, q7, q66, q12, q13, q14, q15, q16, q17, q18, q19, q20, q21, q22, q23, q24, q25], .bool (.lit 0)),
  ([q60, q61, q2, nt q69, q70, q63, q64, q65, q7, q66, q12, q13, q14, q15, q16, q17, q18, q19, q20, q21, q22, q23, q24, q25], .bool (.lit 0)),
  ([q67, q61, q2, nt q69, q70, q63, q64, q65, q7, q66, q12, q13, q14, q15, q16, q17, q18, q19, q20, q21, q22, q23, q24, q25], .bool (.lit 0)),
  ([q68, q2, nt q69, q70, q63, q64, q65, q7, q66, q12, q13, q14, q15, q16, q17, q18, q19, q20, q21, q22, q23, q24, q25], .bool (.lit 0)),
  ([q28, nt q69, q70, q63, q64, q65, q7, q66, q12, q13, q14, q15, q16, q17, q18, q19, q20, q21, q22, q23, q24, q25], .bool (.lit 0)),
  ([q31, q32, q71, q64, q65, q7, q66, q12, q13, q14, q15, q16, q17, q18, q19, q20, q21, q22, q23, q24, q25], .bool (.lit 1)),
  ([nt q31, q32, q71, q64, q65, q7, q66, q12, q13, q14, q15, q16, q17, q18, q19, q20, q21, q22, q23, q24, q25], .bool (.lit 0)),
  ([q31, q34, q35, q71, q64, q65, q7, q66, q12, q13, q14, q15, q16, q17, q18, q19, q20, q21, q22, q23, q24, q25], .bool (.lit 0)),
  ([nt q31, q34, q35, q71, q64, q65, q7, q66, q12, q13, q14, q15, q16, q17, q18, q19, q20, q21, q22, q23, q24, q25], .bool (.lit 0)),
  ([q31, nt q34, q35, q71, q64, q65, q7, q66, q12, q13, q14, q15, q16, q17, q18, q19, q20, q21, q22, q23, q24, q25], .bool (.lit 0)),
  ([nt q31, nt q34, q35, q71, q64, q65, q7, q66, q12, q13, q14, q15, q16, q17, q18, q19, q20, q21, q22, q23, q24, q25], .bool (.lit 0)),
  ([q60, q61, q2, q62, q63, q64, q65, q72, q37, q66, q12, q13, q14, q15, q16, q17, q18, q19, q20, q21, q22, q23, q24, q25], .bool (.lit 0)),
  ([q67, q61, q2, q62, q63, q64, q65, q72, q37, q66, q12, q13, q14, q15, q16, q17, q18, q19, q20, q21, q22, q23, q24, q25], .bool (.lit 0)),
  ([q68, q2, q62, q63, q64, q65, q72, q37, q66, q12, q13, q14, q15, q16, q17, q18, q19, q20, q21, q22, q23, q24, q25], .bool (.lit 0)),
  ([q28, q62, q63, q64, q65, q72, q37, q66, q12, q13, q14, q15, q16, q17, q18, q19, q20, q21, q22, q23, q24, q25], .bool (.lit 0)),
  ([q60, q61, q2, q69, q70, q63, q64, q65, q72, q37, q66, q12, q13, q14, q15, q16, q17, q18, q19, q20, q21, q22, q23, q24, q25], .bool (.lit 0)),
  ([q60, q61, q2, nt q69, q70, q63, q64, q65, q72, q37, q66, q12, q13, q14, q15, q16, q17, q18, q19, q20, q21, q22, q23, q24, q25], .bool (.lit 0)),
  ([q67, q61, q2, nt q69, q70, q63, q64, q65, q72, q37, q66, q12, q13, q14, q15, q16, q17, q18, q19, q20, q21, q22, q23, q24, q25], .bool (.lit 0)),
  ([q68, q2, nt q69, q70, q63, q64, q65, q72, q37, q66, q12, q13, q14, q15, q16, q17, q18, q19, q20, q21, q22, q23, q24, q25], .bool (.lit 0)),
  ([q28, nt q69, q70, q63, q64, q65, q72, q37, q66, q12, q13, q14, q15, q16, q17, q18, q19, q20, q21, q22, q23, q24, q25], .bool (.lit 0)),
  ([q31, q32, q71, q64, q65, q72, q37, q66, q12, q13, q14, q15, q16, q17, q18, q19, q20, q21, q22, q23, q24, q25], .bool (.lit 1)),
  ([nt q31, q32, q71, q64, q65, q72, q37, q66, q12, q13, q14, q15, q16, q17, q18, q19, q20, q21, q22, q23, q24, q25], .bool (.lit 0)),
  ([q31, q34, q35, q71, q64, q65, q72, q37, q66, q12, q13, q14, q15, q16, q17, q18, q19, q20, q21, q22, q23, q24, q25], .bool (.lit 0)),
  ([nt q31, q34, q35, q71, q64, q65, q72, q37, q66, q12, q13, q14, q15, q16, q17, q18, q19, q20, q21, q22, q23, q24, q25], .bool (.lit 0)),
  ([q31, nt q34, q35, q71, q64, q65, q72, q37, q66, q12, q13, q14, q15, q16, q17, q18, q19, q20, q21, q22, q23, q24, q25], .bool (.lit 0)),
  ([nt q31, nt q34, q35, q71, q64, q65, q72, q37, q66, q12, q13, q14, q15, q16, q17, q18, q19, q20, q21, q22, q23, q24, q25], .bool (.lit 0)),
  ([q60, q61, q2, q62, q63, q64, q65, q73, q37, q66, q12, q13, q14, q15, q16, q17, q18, q19, q20, q21, q22, q23, q24, q25], .bool (.lit 0)),
  ([q67, q61, q2, q62, q63, q64, q65, q73, q37, q66, q12, q13, q14, q15, q16, q17, q18, q19, q20, q21, q22, q23, q24, q25], .bool (.lit 0)),
  ([q68, q2, q62, q63, q64, q65, q73, q37, q66, q12, q13, q14, q15, q16, q17, q18, q19, q20, q21, q22, q23, q24, q25], .bool (.lit 0)),
  ([q28, q62, q63, q64, q65, q73, q37, q66, q12, q13, q14, q15, q16, q17, q18, q19, q20, q21, q22, q23, q24, q25], .bool (.lit 0)),
  ([q60, q61, q2, q74, q70, q63, q64, q65, q73, q37, q66, q12, q13, q14, q15, q16, q17, q18, q19, q20, q21, q22, q23, q24, q25], .bool (.lit 0)),
  ([nt q75, q60, q61, q2, nt q74, q70, q63, q64, q65, q73, q37, q66, q12, q13, q14, q15, q16, q17, q18, q19, q20, q21, q22, q23, q24, q25], .bool (.lit 0)),
  ([q67, q61, q2, nt q74, q70, q63, q64, q65, q73, q37, q66, q12, q13, q14, q15, q16, q17, q18, q19, q20, q21, q22, q23, q24, q25], .bool (.lit 0)),
  ([q68, q2, nt q74, q70, q63, q64, q65, q73, q37, q66, q12, q13, q14, q15, q16, q17, q18, q19, q20, q21, q22, q23, q24, q25], .bool (.lit 0)),
  ([q28, nt q74, q70, q63, q64, q65, q73, q37, q66, q12, q13, q14, q15, q16, q17, q18, q19, q20, q21, q22, q23, q24, q25], .bool (.lit 0)),
  ([q41, q32, q71, q64, q65, q73, q37, q66, q12, q13, q14, q15, q16, q17, q18, q19, q20, q21, q22, q23, q24, q25], .bool (.lit 1)),
  ([nt q41, q32, q71, q64, q65, q73, q37, q66, q12, q13, q14, q15, q16, q17, q18, q19, q20, q21, q22, q23, q24, q25], .bool (.lit 0)),
  ([q41, q76, q35, q71, q64, q65, q73, q37, q66, q12, q13, q14, q15, q16, q17, q18, q19, q20, q21, q22, q23, q24, q25], .bool (.lit 0)),
  ([nt q41, q76, q35, q71, q64, q65, q73, q37, q66, q12, q13, q14, q15, q16, q17, q18, q19, q20, q21, q22, q23, q24, q25], .bool (.lit 0)),
  ([q41, nt q76, q35, q71, q64, q65, q73, q37, q66, q12, q13, q14, q15, q16, q17, q18, q19, q20, q21, q22, q23, q24, q25], .bool (.lit 0)),
  ([nt q41, nt q76, q35, q71, q64, q65, q73, q37, q66, q12, q13, q14, q15, q16, q17, q18, q19, q20, q21, q22, q23, q24, q25], .bool (.lit 0)),
  ([q43, q44, q2, q46, q47, q48, q7, q77, q9, q78, q11, q79, q80, q81, q17, q82, q20, q21, q22, q23, q24, q25], .bool (.lit 0)),
  ([q50, q44, q2, q46, q47, q48, q7, q77, q9, q78, q11, q79, q80, q81, q17, q82, q20, q21, q22, q23, q24, q25], .bool (.lit 0)),
  ([q51, q2, q46, q47, q48, q7, q77, q9, q78, q11, q79, q80, q81, q17, q82, q20, q21, q22, q23, q24, q25], .bool (.lit 0)),
  ([q28, q46, q47, q48, q7, q77, q9, q78, q11, q79, q80, q81, q17, q82, q20, q21, q22, q23, q24, q25], .bool (.lit 0)),
  ([q31, q54, q47, q48, q7, q77, q9, q78, q11, q79, q80, q81, q17, q82, q20, q21, q22, q23, q24, q25], .bool (.lit 1)),
  ([nt q31, q54, q47, q48, q7, q77, q9, q78, q11, q79, q80, q81, q17, q82, q20, q21, q22, q23, q24, q25], .bool (.lit 0)),
  ([q2, q46, q47, q48, q37, q77, q9, q78, q11, q79, q80, q81, q17, q82, q20, q21, q22, q23, q24, q25], .bool (.lit 0)),
  ([q28, q46, q47, q48, q37, q77, q9, q78, q11, q79, q80, q81, q17, q82, q20, q21, q22, q23, q24, q25], .bool (.lit 0)),
  ([q31, q54, q47, q48, q37, q77, q9, q78, q11, q79, q80, q81, q17, q82, q20, q21, q22, q23, q24, q25], .bool (.lit 1)),
  ([nt q31, q54, q47, q48, q37, q77, q9, q78, q11, q79, q80, q81, q17, q82, q20, q21, q22, q23, q24, q25], .bool (.lit 0)),
  ([q60, q61, q2, q63, q64, q65, q7, q49, q78, q11, q79, q80, q81, q17, q82, q20, q21, q22, q23, q24, q25], .bool (.lit 0)),
  ([q67, q61, q2, q63, q64, q65, q7, q49, q78, q11, q79, q80, q81, q17, q82, q20, q21, q22, q23, q24, q25], .bool (.lit 0)),
  ([q68, q2, q63, q64, q65, q7, q49, q78, q11, q79, q80, q81, q17, q82, q20, q21, q22, q23, q24, q25], .bool (.lit 0)),
  ([q28, q63, q64, q65, q7, q49, q78, q11, q79, q80, q81, q17, q82, q20, q21, q22, q23, q24, q25], .bool (.lit 0)),
  ([q31, q71, q64, q65, q7, q49, q78, q11, q79, q80, q81, q17, q82, q20, q21, q22, q23, q24, q25], .bool (.lit 1)),
  ([nt q31, q71, q64, q65, q7, q49, q78, q11, q79, q80, q81, q17, q82, q20, q21, q22, q23, q24, q25], .bool (.lit 0)),
  ([q2, q63, q64, q65, q37, q49, q78, q11, q79, q80, q81, q17, q82, q20, q21, q22, q23, q24, q25], .bool (.lit 0)),
  ([q28, q63, q64, q65, q37, q49, q78, q11, q79, q80, q81, q17, q82, q20, q21, q22, q23, q24, q25], .bool (.lit 0)),
  ([q31, q71, q64, q65, q37, q49, q78, q11, q79, q80, q81, q17, q82, q20, q21, q22, q23, q24, q25], .bool (.lit 1)),
  ([nt q31, q71, q64, q65, q37, q49, q78, q11, q79, q80, q81, q17, q82, q20, q21, q22, q23, q24, q25], .bool (.lit 0)),
  ([q83, q84, q2, q85, q86, q87, q7, q66, q79, q80, q81, q17, q82, q20, q21, q22, q23, q24, q25], .bool (.lit 0)),
  ([q88, q84, q2, q85, q86, q87, q7, q66, q79, q80, q81, q17, q82, q20, q21, q22, q23, q24, q25], .bool (.lit 0)),
  ([q89, q2, q85, q86, q87, q7, q66, q79, q80, q81, q17, q82, q20, q21, q22, q23, q24, q25], .bool (.lit 0)),
  ([q28, q85, q86, q87, q7, q66, q79, q80, q81, q17, q82, q20, q21, q22, q23, q24, q25], .bool (.lit 0)),
  ([q31, q90, q86, q87, q7, q66, q79, q80, q81, q17, q82, q20, q21, q22, q23, q24, q25], .bool (.lit 1)),
  ([nt q31, q90, q86, q87, q7, q66, q79, q80, q81, q17, q82, q20, q21, q22, q23, q24, q25], .bool (.lit 0)),
  ([q2, q85, q86, q87, q37, q66, q79, q80, q81, q17, q82, q20, q21, q22, q23, q24, q25], .bool (.lit 0)),
  ([q28, q85, q86, q87, q37, q66, q79, q80, q81, q17, q82, q20, q21, q22, q23, q24, q25], .bool (.lit 0)),
  ([q31, q90, q86, q87, q37, q66, q79, q80, q81, q17, q82, q20, q21, q22, q23, q24, q25], .bool (.lit 1)),
  ([nt q31, q90, q86, q87, q37, q66, q79, q80, q81, q17, q82, q20, q21, q22, q23, q24, q25], .bool (.lit 0))]
set_option maxRecDepth 100000 in
theorem lawRan : runOf Try.prog noOracle looped (bodies fns) [] 4000 10 [some .i64, some .i64, some .i64] [.bin .le (.lit 4) (.bin .emod (.var 2) (.lit 16)), .bin .le (.bin .emod (.var 2) (.lit 16)) (.lit 6)] = some lawR := by kernel_rfl
end Go.Proofs.Ytjgobpmhdeancaa.RunTablePutsB
