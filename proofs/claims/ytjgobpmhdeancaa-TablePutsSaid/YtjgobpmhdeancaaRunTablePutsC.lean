/- The ways of the code through numbers, and that the code takes no other. No condition. -/
import Derived.Test.YtjgobpmhdeancaaFns
import Derived.Test.YtjgobpmhdeancaaHs
import Derived.KernelRfl
namespace Go.Proofs.Ytjgobpmhdeancaa.RunTablePutsC
open Go Go.Sx 

def nt (e : E) : E := .un .bnot e
def q0 : E := (.bin .lt (.var 15) (.bin .add (.un (.wrap .u8) (.var 1)) (.bin .emod (.var 2) (.lit 16))))
def q1 : E := (.bin .le (.un (.wrap .u8) (.var 1)) (.var 15))
def q2 : E := (.bin .le (.bin .add (.un (.wrap .u8) (.var 1)) (.bin .emod (.var 2) (.lit 16))) (.un (.wrap .u8) (.var 0)))
def q3 : E := (.bin .le (.bin .mul (.un (.wrap .u8) (.var 0)) (.lit 1)) (.var 15))
def q4 : E := (.bin .lt (.var 15) (.un (.wrap .u8) (.var 0)))
def q5 : E := (.bin .le (.lit 0) (.var 15))
def q6 : E := (.bin .le (.var 15) (.un (.wrap .u8) (.var 0)))
def q7 : E := (.bin .lt (.bin .mul (.un (.wrap .u8) (.var 0)) (.lit 1)) (.un (.wrap .u8) (.var 1)))
def q8 : E := (.bin .le (.lit 9) (.var 14))
def q9 : E := (.bin .lt (.lit 8) (.bin .emod (.var 2) (.lit 16)))
def q10 : E := (.bin .le (.lit 8) (.var 13))
def q11 : E := (.bin .lt (.lit 7) (.bin .emod (.var 2) (.lit 16)))
def q12 : E := (.bin .le (.lit 7) (.var 12))
def q13 : E := (.bin .le (.lit 6) (.var 11))
def q14 : E := (.bin .le (.lit 5) (.var 10))
def q15 : E := (.bin .le (.lit 4) (.var 9))
def q16 : E := (.bin .le (.lit 3) (.var 8))
def q17 : E := (.bin .le (.lit 2) (.var 7))
def q18 : E := (.bin .le (.lit 1) (.var 6))
def q19 : E := (.bin .le (.bin .mul (.un (.wrap .u8) (.var 0)) (.lit 1)) (.var 5))
def q20 : E := (.bin .le (.lit 1) (.var 5))
def q21 : E := (.bin .le (.var 5) (.bin .mul (.un (.wrap .u8) (.var 0)) (.lit 1)))
def q22 : E := (.bin .le (.lit 1) (.bin .mul (.un (.wrap .u8) (.var 0)) (.lit 1)))
def q23 : E := (.bin .le (.lit 3) (.var 4))
def q24 : E := (.bin .le (.lit 3) (.var 3))
def q25 : E := (.bin .le (.lit 1) (.var 3))
def q26 : E := (.bin .le (.var 3) (.lit 3))
def q27 : E := (.bin .le (.lit 7) (.bin .emod (.var 2) (.lit 16)))
def q28 : E := (.bin .le (.bin .emod (.var 2) (.lit 16)) (.lit 9))
def q29 : E := (.bin .le (.bin .add (.un (.wrap .u8) (.var 1)) (.bin .emod (.var 2) (.lit 16))) (.var 15))
def q30 : E := (.bin .lt (.var 15) (.un (.wrap .u8) (.var 1)))
def q31 : E := (.bin .lt (.un (.wrap .u8) (.var 0)) (.bin .add (.un (.wrap .u8) (.var 1)) (.bin .emod (.var 2) (.lit 16))))
def q32 : E := (.bin .eq (.ite (.bin .and (.bin .le (.lit 0) (.var 15)) (.bin .lt (.var 15) (.var 5))) (.lit (-1)) (.lit 0)) (.lit (-1)))
def q33 : E := (.bin .lt (.var 15) (.bin .mul (.un (.wrap .u8) (.var 0)) (.lit 1)))
def q34 : E := (.bin .eq (.un .bnot (.un .bnot (.lit 0))) (.bin .le (.bin .add (.un (.wrap .u8) (.var 1)) (.bin .emod (.var 2) (.lit 16))) (.un (.wrap .u8) (.var 0))))
def q35 : E := (.bin .le (.bin .mul (.un (.wrap .u8) (.var 0)) (.lit 1)) (.un (.wrap .u8) (.var 0)))
def q36 : E := (.bin .le (.un (.wrap .u8) (.var 0)) (.var 15))
def q37 : E := (.bin .eq (.ite (.bin .and (.bin .le (.lit 0) (.un (.wrap .u8) (.var 0))) (.bin .lt (.un (.wrap .u8) (.var 0)) (.var 5))) (.lit (-1)) (.lit 0)) (.lit (-1)))
def q38 : E := (.bin .lt (.un (.wrap .u8) (.var 0)) (.bin .mul (.un (.wrap .u8) (.var 0)) (.lit 1)))
def q39 : E := (.bin .lt (.bin .sub (.bin .mul (.un (.wrap .u8) (.var 0)) (.lit 1)) (.un (.wrap .u8) (.var 1))) (.lit 9))
def q40 : E := (.bin .le (.un (.wrap .u8) (.var 1)) (.bin .mul (.un (.wrap .u8) (.var 0)) (.lit 1)))
def q41 : E := (.bin .le (.lit 9) (.bin .sub (.bin .mul (.un (.wrap .u8) (.var 0)) (.lit 1)) (.un (.wrap .u8) (.var 1))))
def q42 : E := (.bin .eq (.ite (.bin .and (.bin .le (.bin .sub (.lit 8) (.bin .sub (.lit 0) (.un (.wrap .u8) (.var 1)))) (.var 15)) (.bin .lt (.var 15) (.bin .sub (.lit 9) (.bin .sub (.lit 0) (.un (.wrap .u8) (.var 1)))))) (.lit 108) (.ite (.bin .and (.bin .le (.bin .sub (.lit 7) (.bin .sub (.lit 0) (.un (.wrap .u8) (.var 1)))) (.var 15)) (.bin .lt (.var 15) (.bin .sub (.lit 8) (.bin .sub (.lit 0) (.un (.wrap .u8) (.var 1)))))) (.lit 107) (.ite (.bin .and (.bin .le (.bin .sub (.lit 6) (.bin .sub (.lit 0) (.un (.wrap .u8) (.var 1)))) (.var 15)) (.bin .lt (.var 15) (.bin .sub (.lit 7) (.bin .sub (.lit 0) (.un (.wrap .u8) (.var 1)))))) (.lit 106) (.ite (.bin .and (.bin .le (.bin .sub (.lit 5) (.bin .sub (.lit 0) (.un (.wrap .u8) (.var 1)))) (.var 15)) (.bin .lt (.var 15) (.bin .sub (.lit 6) (.bin .sub (.lit 0) (.un (.wrap .u8) (.var 1)))))) (.lit 105) (.ite (.bin .and (.bin .le (.bin .sub (.lit 4) (.bin .sub (.lit 0) (.un (.wrap .u8) (.var 1)))) (.var 15)) (.bin .lt (.var 15) (.bin .sub (.lit 5) (.bin .sub (.lit 0) (.un (.wrap .u8) (.var 1)))))) (.lit 104) (.ite (.bin .and (.bin .le (.bin .sub (.lit 3) (.bin .sub (.lit 0) (.un (.wrap .u8) (.var 1)))) (.var 15)) (.bin .lt (.var 15) (.bin .sub (.lit 4) (.bin .sub (.lit 0) (.un (.wrap .u8) (.var 1)))))) (.lit 103) (.ite (.bin .and (.bin .le (.bin .sub (.lit 2) (.bin .sub (.lit 0) (.un (.wrap .u8) (.var 1)))) (.var 15)) (.bin .lt (.var 15) (.bin .sub (.lit 3) (.bin .sub (.lit 0) (.un (.wrap .u8) (.var 1)))))) (.lit 102) (.ite (.bin .and (.bin .le (.bin .sub (.lit 1) (.bin .sub (.lit 0) (.un (.wrap .u8) (.var 1)))) (.var 15)) (.bin .lt (.var 15) (.bin .sub (.lit 2) (.bin .sub (.lit 0) (.un (.wrap .u8) (.var 1)))))) (.lit 101) (.ite (.bin .and (.bin .le (.bin .sub (.lit 0) (.bin .sub (.lit 0) (.un (.wrap .u8) (.var 1)))) (.var 15)) (.bin .lt (.var 15) (.bin .sub (.lit 1) (.bin .sub (.lit 0) (.un (.wrap .u8) (.var 1)))))) (.lit 100) (.ite (.bin .and (.bin .le (.un (.wrap .u8) (.var 1)) (.var 15)) (.bin .lt (.var 15) (.bin .add (.un (.wrap .u8) (.var 1)) (.lit 9)))) (.lit 0) (.ite (.bin .and (.bin .le (.lit 0) (.var 15)) (.bin .lt (.var 15) (.var 5))) (.lit (-1)) (.lit 0)))))))))))) (.lit (-1)))
def q43 : E := (.bin .eq (.ite (.bin .and (.bin .le (.bin .sub (.lit 8) (.bin .sub (.lit 0) (.un (.wrap .u8) (.var 1)))) (.var 15)) (.bin .lt (.var 15) (.bin .sub (.lit 9) (.bin .sub (.lit 0) (.un (.wrap .u8) (.var 1)))))) (.lit 108) (.ite (.bin .and (.bin .le (.bin .sub (.lit 7) (.bin .sub (.lit 0) (.un (.wrap .u8) (.var 1)))) (.var 15)) (.bin .lt (.var 15) (.bin .sub (.lit 8) (.bin .sub (.lit 0) (.un (.wrap .u8) (.var 1)))))) (.lit 107) (.ite (.bin .and (.bin .le (.bin .sub (.lit 6) (.bin .sub (.lit 0) (.un (.wrap .u8) (.var 1)))) (.var 15)) (.bin .lt (.var 15) (.bin .sub (.lit 7) (.bin .sub (.lit 0) (.un (.wrap .u8) (.var 1)))))) (.lit 106) (.ite (.bin .and (.bin .le (.bin .sub (.lit 5) (.bin .sub (.lit 0) (.un (.wrap .u8) (.var 1)))) (.var 15)) (.bin .lt (.var 15) (.bin .sub (.lit 6) (.bin .sub (.lit 0) (.un (.wrap .u8) (.var 1)))))) (.lit 105) (.ite (.bin .and (.bin .le (.bin .sub (.lit 4) (.bin .sub (.lit 0) (.un (.wrap .u8) (.var 1)))) (.var 15)) (.bin .lt (.var 15) (.bin .sub (.lit 5) (.bin .sub (.lit 0) (.un (.wrap .u8) (.var 1)))))) (.lit 104) (.ite (.bin .and (.bin .le (.bin .sub (.lit 3) (.bin .sub (.lit 0) (.un (.wrap .u8) (.var 1)))) (.var 15)) (.bin .lt (.var 15) (.bin .sub (.lit 4) (.bin .sub (.lit 0) (.un (.wrap .u8) (.var 1)))))) (.lit 103) (.ite (.bin .and (.bin .le (.bin .sub (.lit 2) (.bin .sub (.lit 0) (.un (.wrap .u8) (.var 1)))) (.var 15)) (.bin .lt (.var 15) (.bin .sub (.lit 3) (.bin .sub (.lit 0) (.un (.wrap .u8) (.var 1)))))) (.lit 102) (.ite (.bin .and (.bin .le (.bin .sub (.lit 1) (.bin .sub (.lit 0) (.un (.wrap .u8) (.var 1)))) (.var 15)) (.bin .lt (.var 15) (.bin .sub (.lit 2) (.bin .sub (.lit 0) (.un (.wrap .u8) (.var 1)))))) (.lit 101) (.ite (.bin .and (.bin .le (.bin .sub (.lit 0) (.bin .sub (.lit 0) (.un (.wrap .u8) (.var 1)))) (.var 15)) (.bin .lt (.var 15) (.bin .sub (.lit 1) (.bin .sub (.lit 0) (.un (.wrap .u8) (.var 1)))))) (.lit 100) (.ite (.bin .and (.bin .le (.un (.wrap .u8) (.var 1)) (.var 15)) (.bin .lt (.var 15) (.bin .add (.un (.wrap .u8) (.var 1)) (.lit 9)))) (.lit 0) (.ite (.bin .and (.bin .le (.lit 0) (.var 15)) (.bin .lt (.var 15) (.var 5))) (.lit (-1)) (.lit 0)))))))))))) (.bin .add (.bin .sub (.var 15) (.un (.wrap .u8) (.var 1))) (.lit 100)))
def q44 : E := (.bin .eq (.un .bnot (.un .bnot (.lit 1))) (.bin .le (.bin .add (.un (.wrap .u8) (.var 1)) (.bin .emod (.var 2) (.lit 16))) (.un (.wrap .u8) (.var 0))))
def q45 : E := (.bin .eq (.ite (.bin .and (.bin .le (.bin .sub (.lit 8) (.bin .sub (.lit 0) (.un (.wrap .u8) (.var 1)))) (.un (.wrap .u8) (.var 0))) (.bin .lt (.un (.wrap .u8) (.var 0)) (.bin .sub (.lit 9) (.bin .sub (.lit 0) (.un (.wrap .u8) (.var 1)))))) (.lit 108) (.ite (.bin .and (.bin .le (.bin .sub (.lit 7) (.bin .sub (.lit 0) (.un (.wrap .u8) (.var 1)))) (.un (.wrap .u8) (.var 0))) (.bin .lt (.un (.wrap .u8) (.var 0)) (.bin .sub (.lit 8) (.bin .sub (.lit 0) (.un (.wrap .u8) (.var 1)))))) (.lit 107) (.ite (.bin .and (.bin .le (.bin .sub (.lit 6) (.bin .sub (.lit 0) (.un (.wrap .u8) (.var 1)))) (.un (.wrap .u8) (.var 0))) (.bin .lt (.un (.wrap .u8) (.var 0)) (.bin .sub (.lit 7) (.bin .sub (.lit 0) (.un (.wrap .u8) (.var 1)))))) (.lit 106) (.ite (.bin .and (.bin .le (.bin .sub (.lit 5) (.bin .sub (.lit 0) (.un (.wrap .u8) (.var 1)))) (.un (.wrap .u8) (.var 0))) (.bin .lt (.un (.wrap .u8) (.var 0)) (.bin .sub (.lit 6) (.bin .sub (.lit 0) (.un (.wrap .u8) (.var 1)))))) (.lit 105) (.ite (.bin .and (.bin .le (.bin .sub (.lit 4) (.bin .sub (.lit 0) (.un (.wrap .u8) (.var 1)))) (.un (.wrap .u8) (.var 0))) (.bin .lt (.un (.wrap .u8) (.var 0)) (.bin .sub (.lit 5) (.bin .sub (.lit 0) (.un (.wrap .u8) (.var 1)))))) (.lit 104) (.ite (.bin .and (.bin .le (.bin .sub (.lit 3) (.bin .sub (.lit 0) (.un (.wrap .u8) (.var 1)))) (.un (.wrap .u8) (.var 0))) (.bin .lt (.un (.wrap .u8) (.var 0)) (.bin .sub (.lit 4) (.bin .sub (.lit 0) (.un (.wrap .u8) (.var 1)))))) (.lit 103) (.ite (.bin .and (.bin .le (.bin .sub (.lit 2) (.bin .sub (.lit 0) (.un (.wrap .u8) (.var 1)))) (.un (.wrap .u8) (.var 0))) (.bin .lt (.un (.wrap .u8) (.var 0)) (.bin .sub (.lit 3) (.bin .sub (.lit 0) (.un (.wrap .u8) (.var 1)))))) (.lit 102) (.ite (.bin .and (.bin .le (.bin .sub (.lit 1) (.bin .sub (.lit 0) (.un (.wrap .u8) (.var 1)))) (.un (.wrap .u8) (.var 0))) (.bin .lt (.un (.wrap .u8) (.var 0)) (.bin .sub (.lit 2) (.bin .sub (.lit 0) (.un (.wrap .u8) (.var 1)))))) (.lit 101) (.ite (.bin .and (.bin .le (.bin .sub (.lit 0) (.bin .sub (.lit 0) (.un (.wrap .u8) (.var 1)))) (.un (.wrap .u8) (.var 0))) (.bin .lt (.un (.wrap .u8) (.var 0)) (.bin .sub (.lit 1) (.bin .sub (.lit 0) (.un (.wrap .u8) (.var 1)))))) (.lit 100) (.ite (.bin .and (.bin .le (.un (.wrap .u8) (.var 1)) (.un (.wrap .u8) (.var 0))) (.bin .lt (.un (.wrap .u8) (.var 0)) (.bin .add (.un (.wrap .u8) (.var 1)) (.lit 9)))) (.lit 0) (.ite (.bin .and (.bin .le (.lit 0) (.un (.wrap .u8) (.var 0))) (.bin .lt (.un (.wrap .u8) (.var 0)) (.var 5))) (.lit (-1)) (.lit 0)))))))))))) (.lit (-1)))
def q46 : E := (.bin .lt (.var 14) (.bin .add (.un (.wrap .u8) (.var 1)) (.bin .emod (.var 2) (.lit 16))))
def q47 : E := (.bin .le (.un (.wrap .u8) (.var 1)) (.var 14))
def q48 : E := (.bin .le (.bin .mul (.un (.wrap .u8) (.var 0)) (.lit 1)) (.var 14))
def q49 : E := (.bin .lt (.var 14) (.un (.wrap .u8) (.var 0)))
def q50 : E := (.bin .le (.lit 0) (.var 14))
def q51 : E := (.bin .le (.var 14) (.un (.wrap .u8) (.var 0)))
def q52 : E := (.bin .le (.bin .emod (.var 2) (.lit 16)) (.lit 8))
def q53 : E := (.bin .le (.bin .add (.un (.wrap .u8) (.var 1)) (.bin .emod (.var 2) (.lit 16))) (.var 14))
def q54 : E := (.bin .lt (.var 14) (.un (.wrap .u8) (.var 1)))
def q55 : E := (.bin .eq (.ite (.bin .and (.bin .le (.lit 0) (.var 14)) (.bin .lt (.var 14) (.var 5))) (.lit (-1)) (.lit 0)) (.lit (-1)))
def q56 : E := (.bin .lt (.var 14) (.bin .mul (.un (.wrap .u8) (.var 0)) (.lit 1)))
def q57 : E := (.bin .le (.un (.wrap .u8) (.var 0)) (.var 14))
def q58 : E := (.bin .lt (.bin .sub (.bin .mul (.un (.wrap .u8) (.var 0)) (.lit 1)) (.un (.wrap .u8) (.var 1))) (.lit 8))
def q59 : E := (.bin .le (.lit 8) (.bin .sub (.bin .mul (.un (.wrap .u8) (.var 0)) (.lit 1)) (.un (.wrap .u8) (.var 1))))
def q60 : E := (.bin .eq (.ite (.bin .and (.bin .le (.bin .sub (.lit 7) (.bin .sub (.lit 0) (.un (.wrap .u8) (.var 1)))) (.var 14)) (.bin .lt (.var 14) (.bin .sub (.lit 8) (.bin .sub (.lit 0) (.un (.wrap .u8) (.var 1)))))) (.lit 107) (.ite (.bin .and (.bin .le (.bin .sub (.lit 6) (.bin .sub (.lit 0) (.un (.wrap .u8) (.var 1)))) (.var 14)) (.bin .lt (.var 14) (.bin .sub (.lit 7) (.bin .sub (.lit 0) (.un (.wrap .u8) (.var 1)))))) (.lit 106) (.ite (.bin .and (.bin .le (.bin .sub (.lit 5) (.bin .sub (.lit 0) (.un (.wrap .u8) (.var 1)))) (.var 14)) (.bin .lt (.var 14) (.bin .sub (.lit 6) (.bin .sub (.lit 0) (.un (.wrap .u8) (.var 1)))))) (.lit 105) (.ite (.bin .and (.bin .le (.bin .sub (.lit 4) (.bin .sub (.lit 0) (.un (.wrap .u8) (.var 1)))) (.var 14)) (.bin .lt (.var 14) (.bin .sub (.lit 5) (.bin .sub (.lit 0) (.un (.wrap .u8) (.var 1)))))) (.lit 104) (.ite (.bin .and (.bin .le (.bin .sub (.lit 3) (.bin .sub (.lit 0) (.un (.wrap .u8) (.var 1)))) (.var 14)) (.bin .lt (.var 14) (.bin .sub (.lit 4) (.bin .sub (.lit 0) (.un (.wrap .u8) (.var 1)))))) (.lit 103) (.ite (.bin .and (.bin .le (.bin .sub (.lit 2) (.bin .sub (.lit 0) (.un (.wrap .u8) (.var 1)))) (.var 14)) (.bin .lt (.var 14) (.bin .sub (.lit 3) (.bin .sub (.lit 0) (.un (.wrap .u8) (.var 1)))))) (.lit 102) (.ite (.bin .and (.bin .le (.bin .sub (.lit 1) (.bin .sub (.lit 0) (.un (.wrap .u8) (.var 1)))) (.var 14)) (.bin .lt (.var 14) (.bin .sub (.lit 2) (.bin .sub (.lit 0) (.un (.wrap .u8) (.var 1)))))) (.lit 101) (.ite (.bin .and (.bin .le (.bin .sub (.lit 0) (.bin .sub (.lit 0) (.un (.wrap .u8) (.var 1)))) (.var 14)) (.bin .lt (.var 14) (.bin .sub (.lit 1) (.bin .sub (.lit 0) (.un (.wrap .u8) (.var 1)))))) (.lit 100) (.ite (.bin .and (.bin .le (.un (.wrap .u8) (.var 1)) (.var 14)) (.bin .lt (.var 14) (.bin .add (.un (.wrap .u8) (.var 1)) (.lit 8)))) (.lit 0) (.ite (.bin .and (.bin .le (.lit 0) (.var 14)) (.bin .lt (.var 14) (.var 5))) (.lit (-1)) (.lit 0))))))))))) (.lit (-1)))
def q61 : E := (.bin .eq (.ite (.bin .and (.bin .le (.bin .sub (.lit 7) (.bin .sub (.lit 0) (.un (.wrap .u8) (.var 1)))) (.var 14)) (.bin .lt (.var 14) (.bin .sub (.lit 8) (.bin .sub (.lit 0) (.un (.wrap .u8) (.var 1)))))) (.lit 107) (.ite (.bin .and (.bin .le (.bin .sub (.lit 6) (.bin .sub (.lit 0) (.un (.wrap .u8) (.var 1)))) (.var 14)) (.bin .lt (.var 14) (.bin .sub (.lit 7) (.bin .sub (.lit 0) (.un (.wrap .u8) (.var 1)))))) (.lit 106) (.ite (.bin .and (.bin .le (.bin .sub (.lit 5) (.bin .sub (.lit 0) (.un (.wrap .u8) (.var 1)))) (.var 14)) (.bin .lt (.var 14) (.bin .sub (.lit 6) (.bin .sub (.lit 0) (.un (.wrap .u8) (.var 1)))))) (.lit 105) (.ite (.bin .and (.bin .le (.bin .sub (.lit 4) (.bin .sub (.lit 0) (.un (.wrap .u8) (.var 1)))) (.var 14)) (.bin .lt (.var 14) (.bin .sub (.lit 5) (.bin .sub (.lit 0) (.un (.wrap .u8) (.var 1)))))) (.lit 104) (.ite (.bin .and (.bin .le (.bin .sub (.lit 3) (.bin .sub (.lit 0) (.un (.wrap .u8) (.var 1)))) (.var 14)) (.bin .lt (.var 14) (.bin .sub (.lit 4) (.bin .sub (.lit 0) (.un (.wrap .u8) (.var 1)))))) (.lit 103) (.ite (.bin .and (.bin .le (.bin .sub (.lit 2) (.bin .sub (.lit 0) (.un (.wrap .u8) (.var 1)))) (.var 14)) (.bin .lt (.var 14) (.bin .sub (.lit 3) (.bin .sub (.lit 0) (.un (.wrap .u8) (.var 1)))))) (.lit 102) (.ite (.bin .and (.bin .le (.bin .sub (.lit 1) (.bin .sub (.lit 0) (.un (.wrap .u8) (.var 1)))) (.var 14)) (.bin .lt (.var 14) (.bin .sub (.lit 2) (.bin .sub (.lit 0) (.un (.wrap .u8) (.var 1)))))) (.lit 101) (.ite (.bin .and (.bin .le (.bin .sub (.lit 0) (.bin .sub (.lit 0) (.un (.wrap .u8) (.var 1)))) (.var 14)) (.bin .lt (.var 14) (.bin .sub (.lit 1) (.bin .sub (.lit 0) (.un (.wrap .u8) (.var 1)))))) (.lit 100) (.ite (.bin .and (.bin .le (.un (.wrap .u8) (.var 1)) (.var 14)) (.bin .lt (.var 14) (.bin .add (.un (.wrap .u8) (.var 1)) (.lit 8)))) (.lit 0) (.ite (.bin .and (.bin .le (.lit 0) (.var 14)) (.bin .lt (.var 14) (.var 5))) (.lit (-1)) (.lit 0))))))))))) (.bin .add (.bin .sub (.var 14) (.un (.wrap .u8) (.var 1))) (.lit 100)))
def q62 : E := (.bin .eq (.ite (.bin .and (.bin .le (.bin .sub (.lit 7) (.bin .sub (.lit 0) (.un (.wrap .u8) (.var 1)))) (.un (.wrap .u8) (.var 0))) (.bin .lt (.un (.wrap .u8) (.var 0)) (.bin .sub (.lit 8) (.bin .sub (.lit 0) (.un (.wrap .u8) (.var 1)))))) (.lit 107) (.ite (.bin .and (.bin .le (.bin .sub (.lit 6) (.bin .sub (.lit 0) (.un (.wrap .u8) (.var 1)))) (.un (.wrap .u8) (.var 0))) (.bin .lt (.un (.wrap .u8) (.var 0)) (.bin .sub (.lit 7) (.bin .sub (.lit 0) (.un (.wrap .u8) (.var 1)))))) (.lit 106) (.ite (.bin .and (.bin .le (.bin .sub (.lit 5) (.bin .sub (.lit 0) (.un (.wrap .u8) (.var 1)))) (.un (.wrap .u8) (.var 0))) (.bin .lt (.un (.wrap .u8) (.var 0)) (.bin .sub (.lit 6) (.bin .sub (.lit 0) (.un (.wrap .u8) (.var 1)))))) (.lit 105) (.ite (.bin .and (.bin .le (.bin .sub (.lit 4) (.bin .sub (.lit 0) (.un (.wrap .u8) (.var 1)))) (.un (.wrap .u8) (.var 0))) (.bin .lt (.un (.wrap .u8) (.var 0)) (.bin .sub (.lit 5) (.bin .sub (.lit 0) (.un (.wrap .u8) (.var 1)))))) (.lit 104) (.ite (.bin .and (.bin .le (.bin .sub (.lit 3) (.bin .sub (.lit 0) (.un (.wrap .u8) (.var 1)))) (.un (.wrap .u8) (.var 0))) (.bin .lt (.un (.wrap .u8) (.var 0)) (.bin .sub (.lit 4) (.bin .sub (.lit 0) (.un (.wrap .u8) (.var 1)))))) (.lit 103) (.ite (.bin .and (.bin .le (.bin .sub (.lit 2) (.bin .sub (.lit 0) (.un (.wrap .u8) (.var 1)))) (.un (.wrap .u8) (.var 0))) (.bin .lt (.un (.wrap .u8) (.var 0)) (.bin .sub (.lit 3) (.bin .sub (.lit 0) (.un (.wrap .u8) (.var 1)))))) (.lit 102) (.ite (.bin .and (.bin .le (.bin .sub (.lit 1) (.bin .sub (.lit 0) (.un (.wrap .u8) (.var 1)))) (.un (.wrap .u8) (.var 0))) (.bin .lt (.un (.wrap .u8) (.var 0)) (.bin .sub (.lit 2) (.bin .sub (.lit 0) (.un (.wrap .u8) (.var 1)))))) (.lit 101) (.ite (.bin .and (.bin .le (.bin .sub (.lit 0) (.bin .sub (.lit 0) (.un (.wrap .u8) (.var 1)))) (.un (.wrap .u8) (.var 0))) (.bin .lt (.un (.wrap .u8) (.var 0)) (.bin .sub (.lit 1) (.bin .sub (.lit 0) (.un (.wrap .u8) (.var 1)))))) (.lit 100) (.ite (.bin .and (.bin .le (.un (.wrap .u8) (.var 1)) (.un (.wrap .u8) (.var 0))) (.bin .lt (.un (.wrap .u8) (.var 0)) (.bin .add (.un (.wrap .u8) (.var 1)) (.lit 8)))) (.lit 0) (.ite (.bin .and (.bin .le (.lit 0) (.un (.wrap .u8) (.var 0))) (.bin .lt (.un (.wrap .u8) (.var 0)) (.var 5))) (.lit (-1)) (.lit 0))))))))))) (.lit (-1)))
def q63 : E := (.bin .lt (.var 13) (.bin .add (.un (.wrap .u8) (.var 1)) (.bin .emod (.var 2) (.lit 16))))
def q64 : E := (.bin .le (.un (.wrap .u8) (.var 1)) (.var 13))
def q65 : E := (.bin .le (.bin .mul (.un (.wrap .u8) (.var 0)) (.lit 1)) (.var 13))
def q66 : E := (.bin .lt (.var 13) (.un (.wrap .u8) (.var 0)))
def q67 : E := (.bin .le (.lit 0) (.var 13))
def q68 : E := (.bin .le (.var 13) (.un (.wrap .u8) (.var 0)))
def q69 : E := (.bin .le (.bin .emod (.var 2) (.lit 16)) (.lit 7))
def q70 : E := (.bin .le (.bin .add (.un (.wrap .u8) (.var 1)) (.bin .emod (.var 2) (.lit 16))) (.var 13))
def q71 : E := (.bin .lt (.var 13) (.un (.wrap .u8) (.var 1)))
def q72 : E := (.bin .eq (.ite (.bin .and (.bin .le (.lit 0) (.var 13)) (.bin .lt (.var 13) (.var 5))) (.lit (-1)) (.lit 0)) (.lit (-1)))
def q73 : E := (.bin .lt (.var 13) (.bin .mul (.un (.wrap .u8) (.var 0)) (.lit 1)))
def q74 : E := (.bin .le (.un (.wrap .u8) (.var 0)) (.var 13))
def q75 : E := (.bin .lt (.bin .sub (.bin .mul (.un (.wrap .u8) (.var 0)) (.lit 1)) (.un (.wrap .u8) (.var 1))) (.lit 7))
def q76 : E := (.bin .le (.lit 7) (.bin .sub (.bin .mul (.un (.wrap .u8) (.var 0)) (.lit 1)) (.un (.wrap .u8) (.var 1))))
def q77 : E := (.bin .eq (.ite (.bin .and (.bin .le (.bin .sub (.lit 6) (.bin .sub (.lit 0) (.un (.wrap .u8) (.var 1)))) (.var 13)) (.bin .lt (.var 13) (.bin .sub (.lit 7) (.bin .sub (.lit 0) (.un (.wrap .u8) (.var 1)))))) (.lit 106) (.ite (.bin .and (.bin .le (.bin .sub (.lit 5) (.bin .sub (.lit 0) (.un (.wrap .u8) (.var 1)))) (.var 13)) (.bin .lt (.var 13) (.bin .sub (.lit 6) (.bin .sub (.lit 0) (.un (.wrap .u8) (.var 1)))))) (.lit 105) (.ite (.bin .and (.bin .le (.bin .sub (.lit 4) (.bin .sub (.lit 0) (.un (.wrap .u8) (.var 1)))) (.var 13)) (.bin .lt (.var 13) (.bin .sub (.lit 5) (.bin .sub (.lit 0) (.un (.wrap .u8) (.var 1)))))) (.lit 104) (.ite (.bin .and (.bin .le (.bin .sub (.lit 3) (.bin .sub (.lit 0) (.un (.wrap .u8) (.var 1)))) (.var 13)) (.bin .lt (.var 13) (.bin .sub (.lit 4) (.bin .sub (.lit 0) (.un (.wrap .u8) (.var 1)))))) (.lit 103) (.ite (.bin .and (.bin .le (.bin .sub (.lit 2) (.bin .sub (.lit 0) (.un (.wrap .u8) (.var 1)))) (.var 13)) (.bin .lt (.var 13) (.bin .sub (.lit 3) (.bin .sub (.lit 0) (.un (.wrap .u8) (.var 1)))))) (.lit 102) (.ite (.bin .and (.bin .le (.bin .sub (.lit 1) (.bin .sub (.lit 0) (.un (.wrap .u8) (.var 1)))) (.var 13)) (.bin .lt (.var 13) (.bin .sub (.lit 2) (.bin .sub (.lit 0) (.un (.wrap .u8) (.var 1)))))) (.lit 101) (.ite (.bin .and (.bin .le (.bin .sub (.lit 0) (.bin .sub (.lit 0) (.un (.wrap .u8) (.var 1)))) (.var 13)) (.bin .lt (.var 13) (.bin .sub (.lit 1) (.bin .sub (.lit 0) (.un (.wrap .u8) (.var 1)))))) (.lit 100) (.ite (.bin .and (.bin .le (.un (.wrap .u8) (.var 1)) (.var 13)) (.bin .lt (.var 13) (.bin .add (.un (.wrap .u8) (.var 1)) (.lit 7)))) (.lit 0) (.ite (.bin .and (.bin .le (.lit 0) (.var 13)) (.bin .lt (.var 13) (.var 5))) (.lit (-1)) (.lit 0)))))))))) (.lit (-1)))
def q78 : E := (.bin .eq (.ite (.bin .and (.bin .le (.bin .sub (.lit 6) (.bin .sub (.lit 0) (.un (.wrap .u8) (.var 1)))) (.var 13)) (.bin .lt (.var 13) (.bin .sub (.lit 7) (.bin .sub (.lit 0) (.un (.wrap .u8) (.var 1)))))) (.lit 106) (.ite (.bin .and (.bin .le (.bin .sub (.lit 5) (.bin .sub (.lit 0) (.un (.wrap .u8) (.var 1)))) (.var 13)) (.bin .lt (.var 13) (.bin .sub (.lit 6) (.bin .sub (.lit 0) (.un (.wrap .u8) (.var 1)))))) (.lit 105) (.ite (.bin .and (.bin .le (.bin .sub (.lit 4) (.bin .sub (.lit 0) (.un (.wrap .u8) (.var 1)))) (.var 13)) (.bin .lt (.var 13) (.bin .sub (.lit 5) (.bin .sub (.lit 0) (.un (.wrap .u8) (.var 1)))))) (.lit 104) (.ite (.bin .and (.bin .le (.bin .sub (.lit 3) (.bin .sub (.lit 0) (.un (.wrap .u8) (.var 1)))) (.var 13)) (.bin .lt (.var 13) (.bin .sub (.lit 4) (.bin .sub (.lit 0) (.un (.wrap .u8) (.var 1)))))) (.lit 103) (.ite (.bin .and (.bin .le (.bin .sub (.lit 2) (.bin .sub (.lit 0) (.un (.wrap .u8) (.var 1)))) (.var 13)) (.bin .lt (.var 13) (.bin .sub (.lit 3) (.bin .sub (.lit 0) (.un (.wrap .u8) (.var 1)))))) (.lit 102) (.ite (.bin .and (.bin .le (.bin .sub (.lit 1) (.bin .sub (.lit 0) (.un (.wrap .u8) (.var 1)))) (.var 13)) (.bin .lt (.var 13) (.bin .sub (.lit 2) (.bin .sub (.lit 0) (.un (.wrap .u8) (.var 1)))))) (.lit 101) (.ite (.bin .and (.bin .le (.bin .sub (.lit 0) (.bin .sub (.lit 0) (.un (.wrap .u8) (.var 1)))) (.var 13)) (.bin .lt (.var 13) (.bin .sub (.lit 1) (.bin .sub (.lit 0) (.un (.wrap .u8) (.var 1)))))) (.lit 100) (.ite (.bin .and (.bin .le (.un (.wrap .u8) (.var 1)) (.var 13)) (.bin .lt (.var 13) (.bin .add (.un (.wrap .u8) (.var 1)) (.lit 7)))) (.lit 0) (.ite (.bin .and (.bin .le (.lit 0) (.var 13)) (.bin .lt (.var 13) (.var 5))) (.lit (-1)) (.lit 0)))))))))) (.bin .add (.bin .sub (.var 13) (.un (.wrap .u8) (.var 1))) (.lit 100)))
def q79 : E := (.bin .eq (.ite (.bin .and (.bin .le (.bin .sub (.lit 6) (.bin .sub (.lit 0) (.un (.wrap .u8) (.var 1)))) (.un (.wrap .u8) (.var 0))) (.bin .lt (.un (.wrap .u8) (.var 0)) (.bin .sub (.lit 7) (.bin .sub (.lit 0) (.un (.wrap .u8) (.var 1)))))) (.lit 106) (.ite (.bin .and (.bin .le (.bin .sub (.lit 5) (.bin .sub (.lit 0) (.un (.wrap .u8) (.var 1)))) (.un (.wrap .u8) (.var 0))) (.bin .lt (.un (.wrap .u8) (.var 0)) (.bin .sub (.lit 6) (.bin .sub (.lit 0) (.un (.wrap .u8) (.var 1)))))) (.lit 105) (.ite (.bin .and (.bin .le (.bin .sub (.lit 4) (.bin .sub (.lit 0) (.un (.wrap .u8) (.var 1)))) (.un (.wrap .u8) (.var 0))) (.bin .lt (.un (.wrap .u8) (.var 0)) (.bin .sub (.lit 5) (.bin .sub (.lit 0) (.un (.wrap .u8) (.var 1)))))) (.lit 104) (.ite (.bin .and (.bin .le (.bin .sub (.lit 3) (.bin .sub (.lit 0) (.un (.wrap .u8) (.var 1)))) (.un (.wrap .u8) (.var 0))) (.bin .lt (.un (.wrap .u8) (.var 0)) (.bin .sub (.lit 4) (.bin .sub (.lit 0) (.un (.wrap .u8) (.var 1)))))) (.lit 103) (.ite (.bin .and (.bin .le (.bin .sub (.lit 2) (.bin .sub (.lit 0) (.un (.wrap .u8) (.var 1)))) (.un (.wrap .u8) (.var 0))) (.bin .lt (.un (.wrap .u8) (.var 0)) (.bin .sub (.lit 3) (.bin .sub (.lit 0) (.un (.wrap .u8) (.var 1)))))) (.lit 102) (.ite (.bin .and (.bin .le (.bin .sub (.lit 1) (.bin .sub (.lit 0) (.un (.wrap .u8) (.var 1)))) (.un (.wrap .u8) (.var 0))) (.bin .lt (.un (.wrap .u8) (.var 0)) (.bin .sub (.lit 2) (.bin .sub (.lit 0) (.un (.wrap .u8) (.var 1)))))) (.lit 101) (.ite (.bin .and (.bin .le (.bin .sub (.lit 0) (.bin .sub (.lit 0) (.un (.wrap .u8) (.var 1)))) (.un (.wrap .u8) (.var 0))) (.bin .lt (.un (.wrap .u8) (.var 0)) (.bin .sub (.lit 1) (.bin .sub (.lit 0) (.un (.wrap .u8) (.var 1)))))) (.lit 100) (.ite (.bin .and (.bin .le (.un (.wrap .u8) (.var 1)) (.un (.wrap .u8) (.var 0))) (.bin .lt (.un (.wrap .u8) (.var 0)) (.bin .add (.un (.wrap .u8) (.var 1)) (.lit 7)))) (.lit 0) (.ite (.bin .and (.bin .le (.lit 0) (.un (.wrap .u8) (.var 0))) (.bin .lt (.un (.wrap .u8) (.var 0)) (.var 5))) (.lit (-1)) (.lit 0)))))))))) (.lit (-1)))
def q80 : E := (.bin .le (.lit 9) (.var 13))
def q81 : E := (.bin .le (.lit 8) (.var 12))
def q82 : E := (.bin .le (.lit 7) (.var 11))
def q83 : E := (.bin .le (.lit 6) (.var 10))
def q84 : E := (.bin .le (.lit 5) (.var 9))
def q85 : E := (.bin .le (.lit 4) (.var 8))
def q86 : E := (.bin .le (.lit 3) (.var 7))
def q87 : E := (.bin .le (.lit 2) (.var 6))
def q88 : E := (.bin .lt (.bin .mul (.un (.wrap .u8) (.var 0)) (.lit 1)) (.lit 1))
def q89 : E := (.bin .lt (.var 12) (.bin .add (.un (.wrap .u8) (.var 1)) (.bin .emod (.var 2) (.lit 16))))
def q90 : E := (.bin .le (.un (.wrap .u8) (.var 1)) (.var 12))
def q91 : E := (.bin .lt (.var 12) (.un (.wrap .u8) (.var 0)))
def q92 : E := (.bin .le (.lit 0) (.var 12))
def q93 : E := (.bin .le (.var 12) (.un (.wrap .u8) (.var 0)))
def q94 : E := (.bin .le (.bin .add (.un (.wrap .u8) (.var 1)) (.bin .emod (.var 2) (.lit 16))) (.var 12))
def q95 : E := (.bin .lt (.var 12) (.un (.wrap .u8) (.var 1)))
def q96 : E := (.bin .le (.un (.wrap .u8) (.var 0)) (.var 12))
def lawR : List Leaf := [
  ([q0, q1, q2, q3, q4, q5, q6, q7, q8, q9, q10, q11, q12, q13, q14, q15, q16, q17, q18, q19, q20, q21, q22, q23, q24, q25, q26, q27, q28], .bool (.lit 0)),
  ([q29, q1, q2, q3, q4, q5, q6, q7, q8, q9, q10, q11, q12, q13, q14, q15, q16, q17, q18, q19, q20, q21, q22, q23, q24, q25, q26, q27, q28], .bool (.lit 0)),
  ([q30, q2, q3, q4, q5, q6, q7, q8, q9, q10, q11, q12, q13, q14, q15, q16, q17, q18, q19, q20, q21, q22, q23, q24, q25, q26, q27, q28], .bool (.lit 0)),
  ([q31, q3, q4, q5, q6, q7, q8, q9, q10, q11, q12, q13, q14, q15, q16, q17, q18, q19, q20, q21, q22, q23, q24, q25, q26, q27, q28], .bool (.lit 0)),
  ([q0, q1, q2, q32, q33, q4, q5, q6, q7, q8, q9, q10, q11, q12, q13, q14, q15, q16, q17, q18, q19, q20, q21, q22, q23, q24, q25, q26, q27, q28], .bool (.lit 0)),
  ([q0, q1, q2, nt q32, q33, q4, q5, q6, q7, q8, q9, q10, q11, q12, q13, q14, q15, q16, q17, q18, q19, q20, q21, q22, q23, q24, q25, q26, q27, q28], .bool (.lit 0)),
  ([q29, q1, q2, nt q32, q33, q4, q5, q6, q7, q8, q9, q10, q11, q12, q13, q14, q15, q16, q17, q18, q19, q20, q21, q22, q23, q24, q25, q26, q27, q28], .bool (.lit 0)),
  ([q30, q2, nt q32, q33, q4, q5, q6, q7, q8, q9, q10, q11, q12, q13, q14, q15, q16, q17, q18, q19, q20, q21, q22, q23, q24, q25, q26, q27, q28], .bool (.lit 0)),
  ([q31, nt q32, q33, q4, q5, q6, q7, q8, q9, q10, q11, q12, q13, q14, q15, q16, q17, q18, q19, q20, q21, q22, q23, q24, q25, q26, q27, q28], .bool (.lit 0)),
  ([q34, q35, q36, q5, q6, q7, q8, q9, q10, q11, q12, q13, q14, q15, q16, q17, q18, q19, q20, q21, q22, q23, q24, q25, q26, q27, q28], .bool (.lit 1)),
  ([nt q34, q35, q36, q5, q6, q7, q8, q9, q10, q11, q12, q13, q14, q15, q16, q17, q18, q19, q20, q21, q22, q23, q24, q25, q26, q27, q28], .bool (.lit 0)),
  ([q34, q37, q38, q36, q5, q6, q7, q8, q9, q10, q11, q12, q13, q14, q15, q16, q17, q18, q19, q20, q21, q22, q23, q24, q25, q26, q27, q28], .bool (.lit 0)),
  ([nt q34, q37, q38, q36, q5, q6, q7, q8, q9, q10, q11, q12, q13, q14, q15, q16, q17, q18, q19, q20, q21, q22, q23, q24, q25, q26, q27, q28], .bool (.lit 0)),
  ([q34, nt q37, q38, q36, q5, q6, q7, q8, q9, q10, q11, q12, q13, q14, q15, q16, q17, q18, q19, q20, q21, q22, q23, q24, q25, q26, q27, q28], .bool (.lit 0)),
  ([nt q34, nt q37, q38, q36, q5, q6, q7, q8, q9, q10, q11, q12, q13, q14, q15, q16, q17, q18, q19, q20, q21, q22, q23, q24, q25, q26, q27, q28], .bool (.lit 0)),
  ([q0, q1, q2, q3, q4, q5, q6, q39, q40, q8, q9, q10, q11, q12, q13, q14, q15, q16, q17, q18, q19, q20, q21, q22, q23, q24, q25, q26, q27, q28], .bool (.lit 0)),
  ([q29, q1, q2, q3, q4, q5, q6, q39, q40, q8, q9, q10, q11, q12, q13, q14, q15, q16, q17, q18, q19, q20, q21, q22, q23, q24, q25, q26, q27, q28], .bool (.lit 0)),
  ([q30, q2, q3, q4, q5, q6, q39, q40, q8, q9, q10, q11, q12, q13, q14, q15, q16, q17, q18, q19, q20, q21, q22, q23, q24, q25, q26, q27, q28], .bool (.lit 0)),
  ([q31, q3, q4, q5, q6, q39, q40, q8, q9, q10, q11, q12, q13, q14, q15, q16, q17, q18, q19, q20, q21, q22, q23, q24, q25, q26, q27, q28], .bool (.lit 0)),
  ([q0, q1, q2, q32, q33, q4, q5, q6, q39, q40, q8, q9, q10, q11, q12, q13, q14, q15, q16, q17, q18, q19, q20, q21, q22, q23, q24, q25, q26, q27, q28], .bool (.lit 0)),
  ([q0, q1, q2, nt q32, q33, q4, q5, q6, q39, q40, q8, q9, q10, q11, q12, q13, q14, q15, q16, q17, q18, q19, q20, q21, q22, q23, q24, q25, q26, q27, q28], .bool (.lit 0)),
  ([q29, q1, q2, nt q32, q33, q4, q5, q6, q39, q40, q8, q9, q10, q11, q12, q13, q14, q15, q16, q17, q18, q19, q20, q21, q22, q23, q24, q25, q26, q27, q28], .bool (.lit 0)),
  ([q30, q2, nt q32, q33, q4, q5, q6, q39, q40, q8, q9, q10, q11, q12, q13, q14, q15, q16, q17, q18, q19, q20, q21, q22, q23, q24, q25, q26, q27, q28], .bool (.lit 0)),
  ([q31, nt q32, q33, q4, q5, q6, q39, q40, q8, q9, q10, q11, q12, q13, q14, q15, q16, q17, q18, q19, q20, q21, q22, q23, q24, q25, q26, q27, q28], .bool (.lit 0)),
  ([q34, q35, q36, q5, q6, q39, q40, q8, q9, q10, q11, q12, q13, q14, q15, q16, q17, q18, q19, q20, q21, q22, q23, q24, q25, q26, q27, q28], .bool (.lit 1)),
  ([nt q34, q35, q36, q5, q6, q39, q40, q8, q9, q10, q11, q12, q13, q14, q15, q16, q17, q18, q19, q20, q21, q22, q23, q24, q25, q26, q27, q28], .bool (.lit 0)),
  ([q34, q37, q38, q36, q5, q6, q39, q40, q8, q9, q10, q11, q12, q13, q14, q15, q16, q17, q18, q19, q20, q21, q22, q23, q24, q25, q26, q27, q28], .bool (.lit 0)),
  ([nt q34, q37, q38, q36, q5, q6, q39, q40, q8, q9, q10, q11, q12, q13, q14, q15, q16, q17, q18, q19, q20, q21, q22, q23, q24, q25, q26, q27, q28], .bool (.lit 0)),
  ([q34, nt q37, q38, q36, q5, q6, q39, q40, q8, q9, q10, q11, q12, q13, q14, q15, q16, q17, q18, q19, q20, q21, q22, q23, q24, q25, q26, q27, q28], .bool (.lit 0)),
  ([nt q34, nt q37, q38, q36, q5, q6, q39, q40, q8, q9, q10, q11, q12, q13, q14, q15, q16, q17, q18, q19, q20, q21, q22, q23, q24, q25, q26, q27, q28], .bool (.lit 0)),
  ([q0, q1, q2, q3, q4, q5, q6, q41, q40, q8, q9, q10, q11, q12, q13, q14, q15, q16, q17, q18, q19, q20, q21, q22, q23, q24, q25, q26, q27, q28], .bool (.lit 0)),
  ([q29, q1, q2, q3, q4, q5, q6, q41, q40, q8, q9, q10, q11, q12, q13, q14, q15, q16, q17, q18, q19, q20, q21, q22, q23, q24, q25, q26, q27, q28], .bool (.lit 0)),
  ([q30, q2, q3, q4, q5, q6, q41, q40, q8, q9, q10, q11, q12, q13, q14, q15, q16, q17, q18, q19, q20, q21, q22, q23, q24, q25, q26, q27, q28], .bool (.lit 0)),
  ([q31, q3, q4, q5, q6, q41, q40, q8, q9, q10, q11, q12, q13, q14, q15, q16, q17, q18, q19, q20, q21, q22, q23, q24, q25, q26, q27, q28], .bool (.lit 0)),
  ([q0, q1, q2, q42, q33, q4, q5, q6, q41, q40, q8, q9, q10, q11, q12, q13, q14, q15, q16, q17, q18, q19, q20, q21, q22, q23, q24, q25, q26, q27, q28], .bool (.lit 0)),
  ([nt q43, q0, q1, q2, nt q42, q33, q4, q5, q6, q41, q40, q8, q9, q10, q11, q12, q13, q14, q15, q16, q17, q18, q19, q20, q21, q22, q23, q24, q25, q26, q27, q28], .bool (.lit 0)),
  ([q29, q1, q2, nt q42, q33, q4, q5, q6, q41, q40, q8, q9, q10, q11, q12, q13, q14, q15, q16, q17, q18, q19, q20, q21, q22, q23, q24, q25, q26, q27, q28], .bool (.lit 0)),
  ([q30, q2, nt q42, q33, q4, q5, q6, q41, q40, q8, q9, q10, q11, q12, q13, q14, q15, q16, q17, q18, q19, q20, q21, q22, q23, q24, q25, q26, q27, q28], .bool (.lit 0)),
  ([q31, nt q42, q33, q4, q5, q6, q41, q40, q8, q9, q10, q11, q12, q13, q14, q15, q16, q17, q18, q19, q20, q21, q22, q23, q24, q25, q26, q27, q28], .bool (.lit 0)),
  ([q44, q35, q36, q5, q6, q41, q40, q8, q9, q10, q11, q12, q13, q14, q15, q16, q17, q18, q19, q20, q21, q22, q23, q24, q25, q26, q27, q28], .bool (.lit 1)),
  ([nt q44, q35, q36, q5, q6, q41, q40, q8, q9, q10, q11, q12, q13, q14, q15, q16, q17, q18, q19, q20, q21, q22, q23, q24, q25, q26, q27, q28], .bool (.lit 0)),
  ([q44, q45, q38, q36, q5, q6, q41, q40, q8, q9, q10, q11, q12, q13, q14, q15, q16, q17, q18, q19, q20, q21, q22, q23, q24, q25, q26, q27, q28], .bool (.lit 0)),
  ([nt q44, q45, q38, q36, q5, q6, q41, q40, q8, q9, q10, q11, q12, q13, q14, q15, q16, q17, q18, q19, q20, q21, q22, q23, q24, q25, q26, q27, q28], .bool (.lit 0)),
  ([q44, nt q45, q38, q36, q5, q6, q41, q40, q8, q9, q10, q11, q12, q13, q14, q15, q16, q17, q18, q19, q20, q21, q22, q23, q24, q25, q26, q27, q28], .bool (.lit 0)),
  ([nt q44, nt q45, q38, q36, q5, q6, q41, q40, q8, q9, q10, q11, q12, q13, q14, q15, q16, q17, q18, q19, q20, q21, q22, q23, q24, q25, q26, q27, q28], .bool (.lit 0)),
  ([q46, q47, q2, q48, q49, q50, q51, q7, q52, q10, q11, q12, q13, q14, q15, q16, q17, q18, q19, q20, q21, q22, q23, q24, q25, q26, q27, q28], .bool (.lit 0)),
  ([q53, q47, q2, q48, q49, q50, q51, q7, q52, q10, q11, q12, q13, q14, q15, q16, q17, q18, q19, q20, q21, q22, q23, q24, q25, q26, q27, q28], .bool (.lit 0)),
  ([q54, q2, q48, q49, q50, q51, q7, q52, q10, q11, q12, q13, q14, q15, q16, q17, q18, q19, q20, q21, q22, q23, q24, q25, q26, q27, q28], .bool (.lit 0)),
  ([q31, q48, q49, q50, q51, q7, q52, q10, q11, q12, q13, q14, q15, q16, q17, q18, q19, q20, q21, q22, q23, q24, q25, q26, q27, q28], .bool (.lit 0)),
  ([q46, q47, q2, q55, q56, q49, q50, q51, q7, q52, q10, q11, q12, q13, q14, q15, q16, q17, q18, q19, q20, q21, q22, q23, q24, q25, q26, q27, q28], .bool (.lit 0)),
  ([q46, q47, q2, nt q55, q56, q49, q50, q51, q7, q52, q10, q11, q12, q13, q14, q15, q16, q17, q18, q19, q20, q21, q22, q23, q24, q25, q26, q27, q28], .bool (.lit 0)),
  ([q53, q47, q2, nt q55, q56, q49, q50, q51, q7, q52, q10, q11, q12, q13, q14, q15, q16, q17, q18, q19, q20, q21, q22, q23, q24, q25, q26, q27, q28], .bool (.lit 0)),
  ([q54, q2, nt q55, q56, q49, q50, q51, q7, q52, q10, q11, q12, q13, q14, q15, q16, q17, q18, q19, q20, q21, q22, q23, q24, q25, q26, q27, q28], .bool (.lit 0)),
  ([q31, nt q55, q56, q49, q50, q51, q7, q52, q10, q11, q12, q13, q14, q15, q16, q17, q18, q19, q20, q21, q22, q23, q24, q25, q26, q27, q28], .bool (.lit 0)),
  ([q34, q35, q57, q50, q51, q7, q52, q10, q11, q12, q13, q14, q15, q16, q17, q18, q19, q20, q21, q22, q23, q24, q25, q26, q27, q28], .bool (.lit 1)),
  ([nt q34, q35, q57, q50, q51, q7, q52, q10, q11, q12, q13, q14, q15, q16, q17, q18, q19, q20, q21, q22, q23, q24, q25, q26, q27, q28], .bool (.lit 0)),
  ([q34, q37, q38, q57, q50, q51, q7, q52, q10, q11, q12, q13, q14, q15, q16, q17, q18, q19, q20, q21, q22, q23, q24, q25, q26, q27, q28], .bool (.lit 0)),
  ([nt q34, q37, q38, q57, q50, q51, q7, q52, q10, q11, q12, q13, q14, q15, q16, q17, q18, q19, q20, q21, q22, q23, q24, q25, q26, q27, q28], .bool (.lit 0)),
  ([q34, nt q37, q38, q57, q50, q51, q7, q52, q10, q11, q12, q13, q14, q15, q16, q17, q18, q19, q20, q21, q22, q23, q24, q25, q26, q27, q28], .bool (.lit 0)),
  ([nt q34, nt q37, q38, q57, q50, q51, q7, q52, q10, q11, q12, q13, q14, q15, q16, q17, q18, q19, q20, q21, q22, q23, q24, q25, q26, q27, q28], .bool (.lit 0)),
  ([q46, q47, q2, q48, q49, q50, q51, q58, q40, q52, q10, q11, q12, q13, q14, q15, q16, q17, q18, q19, q20, q21, q22, q23, q24, q25, q26, q27, q28], .bool (.lit 0)),
  ([q53, q47, q2, q48, q49, q50, q51, q58, q40, q52, q10, q11, q12, q13, q14, q15, q16, q17, q18, q19, q20, q21, q22, q23, q24, q25, q26, q27, q28], .bool (.lit 0)),
  ([q54, q2, q48, q49, q50, q51, q58, q40, q52, q10, q11, q12, q13, q14, q15, q16, q17, q18, q19, q20, q21, q22, q23, q24, q25, q26, q27, q28], .bool (.lit 0)),
  ([q31, q48, q49, q50, q51, q58, q40, q52, q10, q11, q12, q13, q14, q15, q16, q17, q18, q19, q20, q21, q22, q23, q24, q25, q26, q27, q28], .bool (.lit 0)),
  ([q46, q47, q2, q55, q56, q49, q50, q51, q58, q40, q52, q10, q11, q12, q13, q14, q15, q16, q17, q18, q19, q20, q21, q22, q23, q24, q25, q26, q27, q28], .bool (.lit 0)),
  ([q46, q47, q2, nt q55, q56, q49, q50, q51, q58, q40, q52, q10, q11, q12, q13, q14, q15, q16, q17, q18, q19, q20, q21, q22, q23, q24, q25, q26, q27, q28], .bool (.lit 0)),
  ([q53, q47, q2, nt q55, q56, q49, q50, q51, q58, q40, q52, q10, q11, q12, q13, q14, q15, q16, q17, q18, q19, q20, q21, q22, q23, q24, q25, q26, q27, q28], .bool (.lit 0)),
  ([q54, q2, nt q55, q56, q49, q50, q51, q58, q40, q52, q10, q11, q12, q13, q14, q15, q16, q17, q18, q19, q20, q21, q22, q23, q24, q25, q26, q27, q28], .bool (.lit 0)),
  ([q31, nt q55, q56, q49, q50, q51, q58, q40, q52, q10, q11, q12, q13, q14, q15, q16, q17, q18, q19, q20, q21, q22, q23, q24, q25, q26, q27, q28], .bool (.lit 0)),
  ([q34, q35, q57, q50, q51, q58, q40, q52, q10, q11, q12, q13, q14, q15, q16, q17, q18, q19, q20, q21, q22, q23, q24, q25, q26, q27, q28], .bool (.lit 1)),
  ([nt q34, q35, q57, q50, q51, q58, q40, q52, q10, q11, q12, q13, q14, q15, q16, q17, q18, q19, q20, q21, q22, q23, q24, q25, q26, q27, q28], .bool (.lit 0)),
  ([q34, q37, q38, q57, q50, q51, q58, q40, q52, q10, q11, q12, q13, q14, q15, q16, q17, q18, q19, q20, q21, q22, q23, q24, q25, q26, q27, q28], .bool (.lit 0)),
  ([nt q34, q37, q38, q57, q50, q51, q58, q40, q52, q10, q11, q12, q13, q14, q15, q16, q17, q18, q19, q20, q21, q22, q23, q24, q25, q26, q27, q28], .bool (.lit 0)),
  ([q34, nt q37, q38, q57, q50, q51, q58, q40, q52, q10, q11, q12, q13, q14, q15, q16, q17, q18, q19, q20, q21, q22, q23, q24, q25, q26, q27, q28], .bool (.lit 0)),
  ([nt q34, nt q37, q38, q57, q50, q51, q58, q40, q52, q10, q11, q12, q13, q14, q15, q16, q17, q18, q19, q20, q21, q22, q23, q24, q25, q26, q27, q28], .bool (.lit 0)),
  ([q46, q47, q2, q48, q49, q50, q51, q59, q40, q52, q10, q11, q12, q13, q14, q15, q16, q17, q18, q19, q20, q21, q22, q23, q24, q25, q26, q27, q28], .bool (.lit 0)),
  ([q53, q47, q2, q48, q49, q50, q51, q59, q40, q52, q10, q11, q12, q13, q14, q15, q16, q17, q18, q19, q20, q21, q22, q23, q24, q25, q26, q27, q28], .bool (.lit 0)),
  ([q54, q2, q48, q49, q50, q51, q59, q40, q52, q10, q11, q12, q13, q14, q15, q16, q17, q18, q19, q20, q21, q22, q23, q24, q25, q26, q27, q28], .bool (.lit 0)),
  ([q31, q48, q49, q50, q51, q59, q40, q52, q10, q11, q12, q13, q14, q15, q16, q17, q18, q19, q20, q21, q22, q23, q24, q25, q26, q27, q28], .bool (.lit 0)),
  ([q46, q47, q2, q60, q56, q49, q50, q51, q59, q40, q52, q10, q11, q12, q13, q14, q15, q16, q17, q18, q19, q20, q21, q22, q23, q24, q25, q26, q27, q28], .bool (.lit 0)),
  ([nt q61, q46, q47, q2, nt q60, q56, q49, q50, q51, q59, q40, q52, q10, q11, q12, q13, q14, q15, q16, q17, q18, q19, q20, q21, q22, q23, q24, q25, q26, q27, q28], .bool (.lit 0)),
  ([q53, q47, q2, nt q60, q56, q49, q50, q51, q59, q40, q52, q10, q11, q12, q13, q14, q15, q16, q17, q18, q19, q20, q21, q22, q23, q24, q25, q26, q27, q28], .bool (.lit 0)),
  ([q54, q2, nt q60, q56, q49, q50, q51, q59, q40, q52, q10, q11, q12, q13, q14, q15, q16, q17, q18, q19, q20, q21, q22, q23, q24, q25, q26, q27, q28], .bool (.lit 0)),
  ([q31, nt q60, q56, q49, q50, q51, q59, q40, q52, q10, q11, q12, q13, q14, q15, q16, q17, q18, q19, q20, q21, q22, q23, q24, q25, q26, q27, q28], .bool (.lit 0)),
  ([q44, q35, q57, q50, q51, q59, q40, q52, q10, q11, q12, q13, q14, q15, q16, q17, q18, q19, q20, q21, q22, q23, q24, q25, q26, q27, q28], .bool (.lit 1)),
  ([nt q44, q35, q57, q50, q51, q59, q40, q52, q10, q11, q12, q13, q14, q15, q16, q17, q18, q19, q20, q21, q22, q23, q24, q25, q26, q27, q28], .bool (.lit 0)),
  ([q44, q62, q38, q57, q50, q51, q59, q40, q52, q10, q11, q12, q13, q14, q15, q16, q17, q18, q19, q20, q21, q22, q23, q24, q25, q26, q27, q28], .bool (.lit 0)),
  ([nt q44, q62, q38, q57, q50, q51, q59, q40, q52, q10, q11, q12, q13, q14, q15, q16, q17, q18, q19, q20, q21, q22, q23, q24, q25, q26, q27, q28], .bool (.lit 0)),
  ([q44, nt q62, q38, q57, q50, q51, q59, q40, q52, q10, q11, q12, q13, q14, q15, q16, q17, q18, q19, q20, q21, q22, q23, q24, q25, q26, q27, q28], .bool (.lit 0)),
  ([nt q44, nt q62, q38, q57, q50, q51, q59, q40, q52, q10, q11, q12, q13, q14, q15, q16, q17, q18, q19, q20, q21, q22, q23, q24, q25, q26, q27, q28], .bool (.lit 0)),
  ([q63, q64, q2, q65, q66, q67, q68, q7, q69, q12, q13, q14, q15, q16, q17, q18, q19, q20, q21, q22, q23, q24, q25, q26, q27, q28], .bool (.lit 0)),
  ([q70, q64, q2, q65, q66, q67, q68, q7, q69, q12, q13, q14, q15, q16, q17, q18, q19, q20, q21, q22, q23, q24, q25, q26, q27, q28], .bool (.lit 0)),
  ([q71, q2, q65, q66, q67, q68, q7, q69, q12, q13, q14, q15, q16, q17, q18, q19, q20, q21, q22, q23, q24, q25, q26, q27, q28], .bool (.lit 0)),
  ([q31, q65, q66, q67, q68, q7, q69, q12, q13, q14, q15, q16, q17, q18, q19, q20, q21, q22, q23, q24, q25, q26, q27, q28], .bool (.lit 0)),
  ([q63, q64, q2, q72, q73, q66, q67, q68, q7, q69, q12, q13, q14, q15, q16, q17, q18, q19, q20, q21, q22, q23, q24, q25, q26, q27, q28], .bool (.lit 0)),
  ([q63, q64, q2, nt q72, q73, q66, q67, q68, q7, q69, q12, q13, q14, q15, q16, q17, q18, q19, q20, q21, q22, q23, q24, q25, q26, q27, q28], .bool (.lit 0)),
  ([q70, q64, q2, nt q72, q73, q66, q67, q68, q7, q69, q12, q13, q14, q15, q16, q17, q18, q19, q20, q21, q22, q23, q24, q25, q26, q27, q28], .bool (.lit 0)),
  ([q71, q2, nt q72, q73, q66, q67, q68, q7, q69, q12, q13, q14, q15, q16, q17, q18, q19, q20, q21, q22, q23, q24, q25, q26, q27, q28], .bool (.lit 0)),
  ([q31, nt q72, q73, q66, q67, q68, q7, q69, q12, q13, q14, q15, q16, q17, q18, q19, q20, q21, q22, q23, q24, q25, q26, q27, q28], .bool (.lit 0)),
  ([q34, q35, q74, q67, q68, q7, q69, q12, q13, q14, q15, q16, q17, q18, q19, q20, q21, q22, q23, q24, q25, q26, q27, q28], .bool (.lit 1)),
  ([nt q34, q35, q74, q67, q68, q7, q69, q12, q13, q14, q15, q16, q17, q18, q19, q20, q21, q22, q23, q24, q25, q26, q27, q28], .bool (.lit 0)),
  ([q34, q37, q38, q74, q67, q68, q7, q69, q12, q13, q14, q15, q16, q17, q18, q19, q20, q21, q22, q23, q24, q25, q26, q27, q28], .bool (.lit 0)),
  ([nt q34, q37, q38, q74, q67, q68, q7, q69, q12, q13, q14, q15, q16, q17, q18, q19, q20, q21, q22, q23, q24, q25, q26, q27, q28], .bool (.lit 0)),
  ([q34, nt q37, q38, q74, q67, q68, q7, q69, q12, q13, q14, q15, q16, q17, q18, q19, q20, q21, q22, q23, q24, q25, q26, q27, q28], .bool (.lit 0)),
  ([nt q34, nt q37, q38, q74, q67, q68, q7, q69, q12, q13, q14, q15, q16, q17, q18, q19, q20, q21, q22, q23, q24, q25, q26, q27, q28], .bool (.lit 0)),
  ([q63, q64, q2, q65, q66, q67, q68, q75, q40, q69, q12, q13, q14, q15, q16, q17, q18, q19, q20, q21, q22, q23, q24, q25, q26, q27, q28], .bool (.lit 0)),
  ([q70, q64, q2, q65, q66, q67, q68, q75, q40, q69, q12, q13, q14, q15, q16, q17, q18, q19, q20, q21, q22, q23, q24, q25, q26, q27, q28], .bool (.lit 0)),
  ([q71, q2, q65, q66, q67, q68, q75, q40, q69, q12, q13, q14, q15, q16, q17, q18, q19, q20, q21, q22, q23, q24, q25, q26, q27, q28], .bool (.lit 0)),
  ([q31, q65, q66, q67, q68, q75, q40, q69, q12, q13, q14, q15, q16, q17, q18, q19, q20, q21, q22, q23, q24, q25, q26, q27, q28], .bool (.lit 0)),
  ([q63, q64, q2, q72, q73, q66, q67, q68, q75, q40, q69, q12, q13, q14, q15, q16, q17, q18, q19, q20, q21, q22, q23, q24, q25, q26, q27, q28], .bool (.lit 0)),
  ([q63, q64, q2, nt q72, q73, q66, q67, q68, q75, q40, q69, q12, q13, q14, q15, q16, q17, q18, q19, q20, q21, q22, q23, q24, q25, q26, q27, q28], .bool (.lit 0)),
  ([q70, q64, q2, nt q72, q73, q66, q67, q68, q75, q40, q69, q12, q13, q14, q15, q16, q17, q18, q19, q20, q21, q22, q23, q24, q25, q26, q27, q28], .bool (.lit 0)),
  ([q71, q2, nt q72, q73, q66, q67, q68, q75, q40, q69, q12, q13, q14, q15, q16, q17, q18, q19, q20, q21, q22, q23, q24, q25, q26, q27, q28], .bool (.lit 0)),
  ([q31, nt q72, q73, q66, q67, q68, q75, q40, q69, q12, q13, q14, q15, q16, q17, q18, q19, q20, q21, q22, q23, q24, q25, q26, q27, q28], .bool (.lit 0)),
  ([q34, q35, q74, q67, q68, q75, q40, q69, q12, q13, q14, q15, q16, q17, q18, q19, q20, q21, q22, q23, q24, q25, q26, q27, q28], .bool (.lit 1)),
  ([nt q34, q35, q74, q67, q68, q75, q40, q69, q12, q13, q14, q15, q16, q17, q18, q19, q20, q21, q22, q23, q24, q25, q26, q27, q28], .bool (.lit 0)),
  ([q34, q37, q38, q74, q67, q68, q75, q40, q69, q12, q13, q14, q15, q16, q17, q18, q19, q20, q21, q22, q23, q24, q25, q26, q27, q28], .bool (.lit 0)),
  ([nt q34, q37, q38, q74, q67, q68, q75, q40, q69, q12, q13, q14, q15, q16, q17, q18, q19, q20, q21, q22, q23, q24, q25, q26, q27, q28], .bool (.lit 0)),
  ([q34, nt q37, q38, q74, q67, q68, q75, q40, q69, q12, q13, q14, q15, q16, q17, q18, q19, q20, q21, q22, q23, q24, q25, q26, q27, q28], .bool (.lit 0)),
  ([nt q34, nt q37, q38, q74, q67, q68, q75, q40, q69, q12, q13, q14, q15, q16, q17, q18, q19, q20, q21, q22, q23, q24, q25, q26, q27, q28], .bool (.lit 0)),
  ([q63, q64, q2, q65, q66, q67, q68, q76, q40, q69, q12, q13, q14, q15, q16, q17, q18, q19, q20, q21, q22, q23, q24, q25, q26, q27, q28], .bool (.lit 0)),
  ([q70, q64, q2, q65, q66, q67, q68, q76, q40, q69, q12, q13, q14, q15, q16, q17, q18, q19, q20, q21, q22, q23, q24, q25, q26, q27, q28], .bool (.lit 0)),
  ([q71, q2, q65, q66, q67, q68, q76, q40, q69, q12, q13, q14, q15, q16, q17, q18, q19, q20, q21, q22, q23, q24, q25, q26, q27, q28], .bool (.lit 0)),
  ([q31, q65, q66, q67, q68, q76, q40, q69, q12, q13, q14, q15, q16, q17, q18, q19, q20, q21, q22, q23, q24, q25, q26, q27, q28], .bool (.lit 0)),
  ([q63, q64, q2, q77, q73, q66, q67, q68, q76, q40, q69, q12, q13, q14, q15, q16, q17, q18, q19, q20, q21, q22, q23, q24, q25, q26, q27, q28], .bool (.lit 0)),
  ([nt q78, q63, q64, q2, nt q77, q73, q66, q67, q68, q76, q40, q69, q12, q13, q14, q15, q16, q17, q18, q19, q20, q21, q22, q23, q24, q25, q26, q27, q28], .bool (.lit 0)),
  ([q70, q64, q2, nt q77, q73, q66, q67, q68, q76, q40, q69, q12, q13, q14, q15, q16, q17, q18, q19, q20, q21, q22, q23, q24, q25, q26, q27, q28], .bool (.lit 0)),
  ([q71, q2, nt q77, q73, q66, q67, q68, q76, q40, q69, q12, q13, q14, q15, q16, q17, q18, q19, q20, q21, q22, q23, q24, q25, q26, q27, q28], .bool (.lit 0)),
  ([q31, nt q77, q73, q66, q67, q68, q76, q40, q69, q12, q13, q14, q15, q16, q17, q18, q19, q20, q21, q22, q23, q24, q25, q26, q27, q28], .bool (.lit 0)),
  ([q44, q35, q74, q67, q68, q76, q40, q69, q12, q13, q14, q15, q16, q17, q18, q19, q20, q21, q22, q23, q24, q25, q26, q27, q28], .bool (.lit 1)),
  ([nt q44, q35, q74, q67, q68, q76, q40, q69, q12, q13, q14, q15, q16, q17, q18, q19, q20, q21, q22, q23, q24, q25, q26, q27, q28], .bool (.lit 0)),
  ([q44, q79, q38, q74, q67, q68, q76, q40, q69, q12, q13, q14, q15, q16, q17, q18, q19, q20, q21, q22, q23, q24, q25, q26, q27, q28], .bool (.lit 0)),
  ([nt q44, q79, q38, q74, q67, q68, q76, q40, q69, q12, q13, q14, q15, q16, q17, q18, q19, q20, q21, q22, q23, q24, q25, q26, q27, q28], .bool (.lit 0)),
  ([q44, nt q79, q38, q74, q67, q68, q76, q40, q69, q12, q13, q14, q15, q16, q17, q18, q19, q20, q21, q22, q23, q24, q25, q26, q27, q28], .bool (.lit 0)),
  ([nt q44, nt q79, q38, q74, q67, q68, q76, q40, q69, q12, q13, q14, q15, q16, q17, q18, q19, q20, q21, q22, q23, q24, q25, q26, q27, q28], .bool (.lit 0)),
  ([q46, q47, q2, q49, q50, q51, q7, q80, q9, q81, q11, q82, q83, q84, q85, q86, q87, q20, q88, q23, q24, q25, q26, q27, q28], .bool (.lit 0)),
  ([q53, q47, q2, q49, q50, q51, q7, q80, q9, q81, q11, q82, q83, q84, q85, q86, q87, q20, q88, q23, q24, q25, q26, q27, q28], .bool (.lit 0)),
  ([q54, q2, q49, q50, q51, q7, q80, q9, q81, q11, q82, q83, q84, q85, q86, q87, q20, q88, q23, q24, q25, q26, q27, q28], .bool (.lit 0)),
  ([q31, q49, q50, q51, q7, q80, q9, q81, q11, q82, q83, q84, q85, q86, q87, q20, q88, q23, q24, q25, q26, q27, q28], .bool (.lit 0)),
  ([q34, q57, q50, q51, q7, q80, q9, q81, q11, q82, q83, q84, q85, q86, q87, q20, q88, q23, q24, q25, q26, q27, q28], .bool (.lit 1)),
  ([nt q34, q57, q50, q51, q7, q80, q9, q81, q11, q82, q83, q84, q85, q86, q87, q20, q88, q23, q24, q25, q26, q27, q28], .bool (.lit 0)),
  ([q2, q49, q50, q51, q40, q80, q9, q81, q11, q82, q83, q84, q85, q86, q87, q20, q88, q23, q24, q25, q26, q27, q28], .bool (.lit 0)),
  ([q31, q49, q50, q51, q40, q80, q9, q81, q11, q82, q83, q84, q85, q86, q87, q20, q88, q23, q24, q25, q26, q27, q28], .bool (.lit 0)),
  ([q34, q57, q50, q51, q40, q80, q9, q81, q11, q82, q83, q84, q85, q86, q87, q20, q88, q23, q24, q25, q26, q27, q28], .bool (.lit 1)),
  ([nt q34, q57, q50, q51, q40, q80, q9, q81, q11, q82, q83, q84, q85, q86, q87, q20, q88, q23, q24, q25, q26, q27, q28], .bool (.lit 0)),
  ([q63, q64, q2, q66, q67, q68, q7, q52, q81, q11, q82, q83, q84, q85, q86, q87, q20, q88, q23, q24, q25, q26, q27, q28], .bool (.lit 0)),
  ([q70, q64, q2, q66, q67, q68, q7, q52, q81, q11, q82, q83, q84, q85, q86, q87, q20, q88, q23, q24, q25, q26, q27, q28], .bool (.lit 0)),
  ([q71, q2, q66, q67, q68, q7, q52, q81, q11, q82, q83, q84, q85, q86, q87, q20, q88, q23, q24, q25, q26, q27, q28], .bool (.lit 0)),
  ([q31, q66, q67, q68, q7, q52, q81, q11, q82, q83, q84, q85, q86, q87, q20, q88, q23, q24, q25, q26, q27, q28], .bool (.lit 0)),
  ([q34, q74, q67, q68, q7, q52, q81, q11, q82, q83, q84, q85, q86, q87, q20, q88, q23, q24, q25, q26, q27, q28], .bool (.lit 1)),
  ([nt q34, q74, q67, q68, q7, q52, q81, q11, q82, q83, q84, q85, q86, q87, q20, q88, q23, q24, q25, q26, q27, q28], .bool (.lit 0)),
  ([q2, q66, q67, q68, q40, q52, q81, q11, q82, q83, q84, q85, q86, q87, q20, q88, q23, q24, q25, q26, q27, q28], .bool (.lit 0)),
  ([q31, q66, q67, q68, q40, q52, q81, q11, q82, q83, q84, q85, q86, q87, q20, q88, q23, q24, q25, q26, q27, q28], .bool (.lit 0)),
  ([q34, q74, q67, q68, q40, q52, q81, q11, q82, q83, q84, q85, q86, q87, q20, q88, q23, q24, q25, q26, q27, q28], .bool (.lit 1)),
  ([nt q34, q74, q67, q68, q40, q52, q81, q11, q82, q83, q84, q85, q86, q87, q20, q88, q23, q24, q25, q26, q27, q28], .bool (.lit 0)),
  ([q89, q90, q2, q91, q92, q93, q7, q69, q82, q83, q84, q85, q86, q87, q20, q88, q23, q24, q25, q26, q27, q28], .bool (.lit 0)),
  ([q94, q90, q2, q91, q92, q93, q7, q69, q82, q83, q84, q85, q86, q87, q20, q88, q23, q24, q25, q26, q27, q28], .bool (.lit 0)),
  ([q95, q2, q91, q92, q93, q7, q69, q82, q83, q84, q85, q86, q87, q20, q88, q23, q24, q25, q26, q27, q28], .bool (.lit 0)),
  ([q31, q91, q92, q93, q7, q69, q82, q83, q84, q85, q86, q87, q20, q88, q23, q24, q25, q26, q27, q28], .bool (.lit 0)),
  ([q34, q96, q92, q93, q7, q69, q82, q83, q84, q85, q86, q87, q20, q88, q23, q24, q25, q26, q27, q28], .bool (.lit 1)),
  ([nt q34, q96, q92, q93, q7, q69, q82, q83, q84, q85, q86, q87, q20, q88, q23, q24, q25, q26, q27, q28], .bool (.lit 0)),
  ([q2, q91, q92, q93, q40, q69, q82, q83, q84, q85, q86, q87, q20, q88, q23, q24, q25, q26, q27, q28], .bool (.lit 0)),
  ([q31, q91, q92, q93, q40, q69, q82, q83, q84, q85, q86, q87, q20, q88, q23, q24, q25, q26, q27, q28], .bool (.lit 0)),
  ([q34, q96, q92, q93, q40, q69, q82, q83, q84, q85, q86, q87, q20, q88, q23, q24, q25, q26, q27, q28], .bool (.lit 1)),
  ([nt q34, q96, q92, q93, q40, q69, q82, q83, q84, q85, q86, q87, q20, q88, q23, q24, q25, q26, q27, q28], .bool (.lit 0))]
set_option maxRecDepth 100000 in
theorem lawRan : runOf Try.prog noOracle looped (bodies fns) [] 4000 10 [some .i64, some .i64, some .i64] [.bin .le (.lit 7) (.bin .emod (.var 2) (.lit 16)), .bin .le (.bin .emod (.var 2) (.lit 16)) (.lit 9)] = some lawR := by kernel_rfl
end Go.Proofs.Ytjgobpmhdeancaa.RunTablePutsC
