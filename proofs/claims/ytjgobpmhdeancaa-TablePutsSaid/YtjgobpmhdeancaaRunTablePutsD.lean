/- The ways of the code through numbers, and that the code takes no other. No condition. -/
import Derived.Test.YtjgobpmhdeancaaFns
import Derived.Test.YtjgobpmhdeancaaHs
import Derived.KernelRfl
namespace Go.Proofs.Ytjgobpmhdeancaa.RunTablePutsD
open Go Go.Sx 

def nt (e : E) : E := .un .bnot e
def q0 : E := (.bin .lt (.var 17) (.bin .add (.un (.wrap .u8) (.var 1)) (.bin .emod (.var 2) (.lit 16))))
def q1 : E := (.bin .le (.un (.wrap .u8) (.var 1)) (.var 17))
def q2 : E := (.bin .le (.bin .add (.un (.wrap .u8) (.var 1)) (.bin .emod (.var 2) (.lit 16))) (.un (.wrap .u8) (.var 0)))
def q3 : E := (.bin .le (.bin .mul (.un (.wrap .u8) (.var 0)) (.lit 1)) (.var 17))
def q4 : E := (.bin .lt (.var 17) (.un (.wrap .u8) (.var 0)))
def q5 : E := (.bin .le (.lit 0) (.var 17))
def q6 : E := (.bin .le (.var 17) (.un (.wrap .u8) (.var 0)))
def q7 : E := (.bin .lt (.bin .mul (.un (.wrap .u8) (.var 0)) (.lit 1)) (.un (.wrap .u8) (.var 1)))
def q8 : E := (.bin .le (.lit 11) (.var 16))
def q9 : E := (.bin .lt (.lit 10) (.bin .emod (.var 2) (.lit 16)))
def q10 : E := (.bin .le (.lit 10) (.var 15))
def q11 : E := (.bin .le (.lit 9) (.var 14))
def q12 : E := (.bin .le (.lit 8) (.var 13))
def q13 : E := (.bin .le (.lit 7) (.var 12))
def q14 : E := (.bin .le (.lit 6) (.var 11))
def q15 : E := (.bin .le (.lit 5) (.var 10))
def q16 : E := (.bin .le (.lit 4) (.var 9))
def q17 : E := (.bin .le (.lit 3) (.var 8))
def q18 : E := (.bin .le (.lit 2) (.var 7))
def q19 : E := (.bin .le (.lit 1) (.var 6))
def q20 : E := (.bin .le (.bin .mul (.un (.wrap .u8) (.var 0)) (.lit 1)) (.var 5))
def q21 : E := (.bin .le (.lit 1) (.var 5))
def q22 : E := (.bin .le (.var 5) (.bin .mul (.un (.wrap .u8) (.var 0)) (.lit 1)))
def q23 : E := (.bin .le (.lit 1) (.bin .mul (.un (.wrap .u8) (.var 0)) (.lit 1)))
def q24 : E := (.bin .le (.lit 3) (.var 4))
def q25 : E := (.bin .le (.lit 3) (.var 3))
def q26 : E := (.bin .le (.lit 1) (.var 3))
def q27 : E := (.bin .le (.var 3) (.lit 3))
def q28 : E := (.bin .le (.lit 10) (.bin .emod (.var 2) (.lit 16)))
def q29 : E := (.bin .le (.bin .emod (.var 2) (.lit 16)) (.lit 11))
def q30 : E := (.bin .le (.bin .add (.un (.wrap .u8) (.var 1)) (.bin .emod (.var 2) (.lit 16))) (.var 17))
def q31 : E := (.bin .lt (.var 17) (.un (.wrap .u8) (.var 1)))
def q32 : E := (.bin .lt (.un (.wrap .u8) (.var 0)) (.bin .add (.un (.wrap .u8) (.var 1)) (.bin .emod (.var 2) (.lit 16))))
def q33 : E := (.bin .eq (.ite (.bin .and (.bin .le (.lit 0) (.var 17)) (.bin .lt (.var 17) (.var 5))) (.lit (-1)) (.lit 0)) (.lit (-1)))
def q34 : E := (.bin .lt (.var 17) (.bin .mul (.un (.wrap .u8) (.var 0)) (.lit 1)))
def q35 : E := (.bin .eq (.un .bnot (.un .bnot (.lit 0))) (.bin .le (.bin .add (.un (.wrap .u8) (.var 1)) (.bin .emod (.var 2) (.lit 16))) (.un (.wrap .u8) (.var 0))))
def q36 : E := (.bin .le (.bin .mul (.un (.wrap .u8) (.var 0)) (.lit 1)) (.un (.wrap .u8) (.var 0)))
def q37 : E := (.bin .le (.un (.wrap .u8) (.var 0)) (.var 17))
def q38 : E := (.bin .eq (.ite (.bin .and (.bin .le (.lit 0) (.un (.wrap .u8) (.var 0))) (.bin .lt (.un (.wrap .u8) (.var 0)) (.var 5))) (.lit (-1)) (.lit 0)) (.lit (-1)))
def q39 : E := (.bin .lt (.un (.wrap .u8) (.var 0)) (.bin .mul (.un (.wrap .u8) (.var 0)) (.lit 1)))
def q40 : E := (.bin .lt (.bin .sub (.bin .mul (.un (.wrap .u8) (.var 0)) (.lit 1)) (.un (.wrap .u8) (.var 1))) (.lit 11))
def q41 : E := (.bin .le (.un (.wrap .u8) (.var 1)) (.bin .mul (.un (.wrap .u8) (.var 0)) (.lit 1)))
def q42 : E := (.bin .le (.lit 11) (.bin .sub (.bin .mul (.un (.wrap .u8) (.var 0)) (.lit 1)) (.un (.wrap .u8) (.var 1))))
def q43 : E := (.bin .eq (.ite (.bin .and (.bin .le (.bin .sub (.lit 10) (.bin .sub (.lit 0) (.un (.wrap .u8) (.var 1)))) (.var 17)) (.bin .lt (.var 17) (.bin .sub (.lit 11) (.bin .sub (.lit 0) (.un (.wrap .u8) (.var 1)))))) (.lit 110) (.ite (.bin .and (.bin .le (.bin .sub (.lit 9) (.bin .sub (.lit 0) (.un (.wrap .u8) (.var 1)))) (.var 17)) (.bin .lt (.var 17) (.bin .sub (.lit 10) (.bin .sub (.lit 0) (.un (.wrap .u8) (.var 1)))))) (.lit 109) (.ite (.bin .and (.bin .le (.bin .sub (.lit 8) (.bin .sub (.lit 0) (.un (.wrap .u8) (.var 1)))) (.var 17)) (.bin .lt (.var 17) (.bin .sub (.lit 9) (.bin .sub (.lit 0) (.un (.wrap .u8) (.var 1)))))) (.lit 108) (.ite (.bin .and (.bin .le (.bin .sub (.lit 7) (.bin .sub (.lit 0) (.un (.wrap .u8) (.var 1)))) (.var 17)) (.bin .lt (.var 17) (.bin .sub (.lit 8) (.bin .sub (.lit 0) (.un (.wrap .u8) (.var 1)))))) (.lit 107) (.ite (.bin .and (.bin .le (.bin .sub (.lit 6) (.bin .sub (.lit 0) (.un (.wrap .u8) (.var 1)))) (.var 17)) (.bin .lt (.var 17) (.bin .sub (.lit 7) (.bin .sub (.lit 0) (.un (.wrap .u8) (.var 1)))))) (.lit 106) (.ite (.bin .and (.bin .le (.bin .sub (.lit 5) (.bin .sub (.lit 0) (.un (.wrap .u8) (.var 1)))) (.var 17)) (.bin .lt (.var 17) (.bin .sub (.lit 6) (.bin .sub (.lit 0) (.un (.wrap .u8) (.var 1)))))) (.lit 105) (.ite (.bin .and (.bin .le (.bin .sub (.lit 4) (.bin .sub (.lit 0) (.un (.wrap .u8) (.var 1)))) (.var 17)) (.bin .lt (.var 17) (.bin .sub (.lit 5) (.bin .sub (.lit 0) (.un (.wrap .u8) (.var 1)))))) (.lit 104) (.ite (.bin .and (.bin .le (.bin .sub (.lit 3) (.bin .sub (.lit 0) (.un (.wrap .u8) (.var 1)))) (.var 17)) (.bin .lt (.var 17) (.bin .sub (.lit 4) (.bin .sub (.lit 0) (.un (.wrap .u8) (.var 1)))))) (.lit 103) (.ite (.bin .and (.bin .le (.bin .sub (.lit 2) (.bin .sub (.lit 0) (.un (.wrap .u8) (.var 1)))) (.var 17)) (.bin .lt (.var 17) (.bin .sub (.lit 3) (.bin .sub (.lit 0) (.un (.wrap .u8) (.var 1)))))) (.lit 102) (.ite (.bin .and (.bin .le (.bin .sub (.lit 1) (.bin .sub (.lit 0) (.un (.wrap .u8) (.var 1)))) (.var 17)) (.bin .lt (.var 17) (.bin .sub (.lit 2) (.bin .sub (.lit 0) (.un (.wrap .u8) (.var 1)))))) (.lit 101) (.ite (.bin .and (.bin .le (.bin .sub (.lit 0) (.bin .sub (.lit 0) (.un (.wrap .u8) (.var 1)))) (.var 17)) (.bin .lt (.var 17) (.bin .sub (.lit 1) (.bin .sub (.lit 0) (.un (.wrap .u8) (.var 1)))))) (.lit 100) (.ite (.bin .and (.bin .le (.un (.wrap .u8) (.var 1)) (.var 17)) (.bin .lt (.var 17) (.bin .add (.un (.wrap .u8) (.var 1)) (.lit 11)))) (.lit 0) (.ite (.bin .and (.bin .le (.lit 0) (.var 17)) (.bin .lt (.var 17) (.var 5))) (.lit (-1)) (.lit 0)))))))))))))) (.lit (-1)))
def q44 : E := (.bin .eq (.ite (.bin .and (.bin .le (.bin .sub (.lit 10) (.bin .sub (.lit 0) (.un (.wrap .u8) (.var 1)))) (.var 17)) (.bin .lt (.var 17) (.bin .sub (.lit 11) (.bin .sub (.lit 0) (.un (.wrap .u8) (.var 1)))))) (.lit 110) (.ite (.bin .and (.bin .le (.bin .sub (.lit 9) (.bin .sub (.lit 0) (.un (.wrap .u8) (.var 1)))) (.var 17)) (.bin .lt (.var 17) (.bin .sub (.lit 10) (.bin .sub (.lit 0) (.un (.wrap .u8) (.var 1)))))) (.lit 109) (.ite (.bin .and (.bin .le (.bin .sub (.lit 8) (.bin .sub (.lit 0) (.un (.wrap .u8) (.var 1)))) (.var 17)) (.bin .lt (.var 17) (.bin .sub (.lit 9) (.bin .sub (.lit 0) (.un (.wrap .u8) (.var 1)))))) (.lit 108) (.ite (.bin .and (.bin .le (.bin .sub (.lit 7) (.bin .sub (.lit 0) (.un (.wrap .u8) (.var 1)))) (.var 17)) (.bin .lt (.var 17) (.bin .sub (.lit 8) (.bin .sub (.lit 0) (.un (.wrap .u8) (.var 1)))))) (.lit 107) (.ite (.bin .and (.bin .le (.bin .sub (.lit 6) (.bin .sub (.lit 0) (.un (.wrap .u8) (.var 1)))) (.var 17)) (.bin .lt (.var 17) (.bin .sub (.lit 7) (.bin .sub (.lit 0) (.un (.wrap .u8) (.var 1)))))) (.lit 106) (.ite (.bin .and (.bin .le (.bin .sub (.lit 5) (.bin .sub (.lit 0) (.un (.wrap .u8) (.var 1)))) (.var 17)) (.bin .lt (.var 17) (.bin .sub (.lit 6) (.bin .sub (.lit 0) (.un (.wrap .u8) (.var 1)))))) (.lit 105) (.ite (.bin .and (.bin .le (.bin .sub (.lit 4) (.bin .sub (.lit 0) (.un (.wrap .u8) (.var 1)))) (.var 17)) (.bin .lt (.var 17) (.bin .sub (.lit 5) (.bin .sub (.lit 0) (.un (.wrap .u8) (.var 1)))))) (.lit 104) (.ite (.bin .and (.bin .le (.bin .sub (.lit 3) (.bin .sub (.lit 0) (.un (.wrap .u8) (.var 1)))) (.var 17)) (.bin .lt (.var 17) (.bin .sub (.lit 4) (.bin .sub (.lit 0) (.un (.wrap .u8) (.var 1)))))) (.lit 103) (.ite (.bin .and (.bin .le (.bin .sub (.lit 2) (.bin .sub (.lit 0) (.un (.wrap .u8) (.var 1)))) (.var 17)) (.bin .lt (.var 17) (.bin .sub (.lit 3) (.bin .sub (.lit 0) (.un (.wrap .u8) (.var 1)))))) (.lit 102) (.ite (.bin .and (.bin .le (.bin .sub (.lit 1) (.bin .sub (.lit 0) (.un (.wrap .u8) (.var 1)))) (.var 17)) (.bin .lt (.var 17) (.bin .sub (.lit 2) (.bin .sub (.lit 0) (.un (.wrap .u8) (.var 1)))))) (.lit 101) (.ite (.bin .and (.bin .le (.bin .sub (.lit 0) (.bin .sub (.lit 0) (.un (.wrap .u8) (.var 1)))) (.var 17)) (.bin .lt (.var 17) (.bin .sub (.lit 1) (.bin .sub (.lit 0) (.un (.wrap .u8) (.var 1)))))) (.lit 100) (.ite (.bin .and (.bin .le (.un (.wrap .u8) (.var 1)) (.var 17)) (.bin .lt (.var 17) (.bin .add (.un (.wrap .u8) (.var 1)) (.lit 11)))) (.lit 0) (.ite (.bin .and (.bin .le (.lit 0) (.var 17)) (.bin .lt (.var 17) (.var 5))) (.lit (-1)) (.lit 0)))))))))))))) (.bin .add (.bin .sub (.var 17) (.un (.wrap .u8) (.var 1))) (.lit 100)))
def q45 : E := (.bin .eq (.un .bnot (.un .bnot (.lit 1))) (.bin .le (.bin .add (.un (.wrap .u8) (.var 1)) (.bin .emod (.var 2) (.lit 16))) (.un (.wrap .u8) (.var 0))))
def q46 : E := (.bin .eq (.ite (.bin .and (.bin .le (.bin .sub (.lit 10) (.bin .sub (.lit 0) (.un (.wrap .u8) (.var 1)))) (.un (.wrap .u8) (.var 0))) (.bin .lt (.un (.wrap .u8) (.var 0)) (.bin .sub (.lit 11) (.bin .sub (.lit 0) (.un (.wrap .u8) (.var 1)))))) (.lit 110) (.ite (.bin .and (.bin .le (.bin .sub (.lit 9) (.bin .sub (.lit 0) (.un (.wrap .u8) (.var 1)))) (.un (.wrap .u8) (.var 0))) (.bin .lt (.un (.wrap .u8) (.var 0)) (.bin .sub (.lit 10) (.bin .sub (.lit 0) (.un (.wrap .u8) (.var 1)))))) (.lit 109) (.ite (.bin .and (.bin .le (.bin .sub (.lit 8) (.bin .sub (.lit 0) (.un (.wrap .u8) (.var 1)))) (.un (.wrap .u8) (.var 0))) (.bin .lt (.un (.wrap .u8) (.var 0)) (.bin .sub (.lit 9) (.bin .sub (.lit 0) (.un (.wrap .u8) (.var 1)))))) (.lit 108) (.ite (.bin .and (.bin .le (.bin .sub (.lit 7) (.bin .sub (.lit 0) (.un (.wrap .u8) (.var 1)))) (.un (.wrap .u8) (.var 0))) (.bin .lt (.un (.wrap .u8) (.var 0)) (.bin .sub (.lit 8) (.bin .sub (.lit 0) (.un (.wrap .u8) (.var 1)))))) (.lit 107) (.ite (.bin .and (.bin .le (.bin .sub (.lit 6) (.bin .sub (.lit 0) (.un (.wrap .u8) (.var 1)))) (.un (.wrap .u8) (.var 0))) (.bin .lt (.un (.wrap .u8) (.var 0)) (.bin .sub (.lit 7) (.bin .sub (.lit 0) (.un (.wrap .u8) (.var 1)))))) (.lit 106) (.ite (.bin .and (.bin .le (.bin .sub (.lit 5) (.bin .sub (.lit 0) (.un (.wrap .u8) (.var 1)))) (.un (.wrap .u8) (.var 0))) (.bin .lt (.un (.wrap .u8) (.var 0)) (.bin .sub (.lit 6) (.bin .sub (.lit 0) (.un (.wrap .u8) (.var 1)))))) (.lit 105) (.ite (.bin .and (.bin .le (.bin .sub (.lit 4) (.bin .sub (.lit 0) (.un (.wrap .u8) (.var 1)))) (.un (.wrap .u8) (.var 0))) (.bin .lt (.un (.wrap .u8) (.var 0)) (.bin .sub (.lit 5) (.bin .sub (.lit 0) (.un (.wrap .u8) (.var 1)))))) (.lit 104) (.ite (.bin .and (.bin .le (.bin .sub (.lit 3) (.bin .sub (.lit 0) (.un (.wrap .u8) (.var 1)))) (.un (.wrap .u8) (.var 0))) (.bin .lt (.un (.wrap .u8) (.var 0)) (.bin .sub (.lit 4) (.bin .sub (.lit 0) (.un (.wrap .u8) (.var 1)))))) (.lit 103) (.ite (.bin .and (.bin .le (.bin .sub (.lit 2) (.bin .sub (.lit 0) (.un (.wrap .u8) (.var 1)))) (.un (.wrap .u8) (.var 0))) (.bin .lt (.un (.wrap .u8) (.var 0)) (.bin .sub (.lit 3) (.bin .sub (.lit 0) (.un (.wrap .u8) (.var 1)))))) (.lit 102) (.ite (.bin .and (.bin .le (.bin .sub (.lit 1) (.bin .sub (.lit 0) (.un (.wrap .u8) (.var 1)))) (.un (.wrap .u8) (.var 0))) (.bin .lt (.un (.wrap .u8) (.var 0)) (.bin .sub (.lit 2) (.bin .sub (.lit 0) (.un (.wrap .u8) (.var 1)))))) (.lit 101) (.ite (.bin .and (.bin .le (.bin .sub (.lit 0) (.bin .sub (.lit 0) (.un (.wrap .u8) (.var 1)))) (.un (.wrap .u8) (.var 0))) (.bin .lt (.un (.wrap .u8) (.var 0)) (.bin .sub (.lit 1) (.bin .sub (.lit 0) (.un (.wrap .u8) (.var 1)))))) (.lit 100) (.ite (.bin .and (.bin .le (.un (.wrap .u8) (.var 1)) (.un (.wrap .u8) (.var 0))) (.bin .lt (.un (.wrap .u8) (.var 0)) (.bin .add (.un (.wrap .u8) (.var 1)) (.lit 11)))) (.lit 0) (.ite (.bin .and (.bin .le (.lit 0) (.un (.wrap .u8) (.var 0))) (.bin .lt (.un (.wrap .u8) (.var 0)) (.var 5))) (.lit (-1)) (.lit 0)))))))))))))) (.lit (-1)))
def q47 : E := (.bin .lt (.var 16) (.bin .add (.un (.wrap .u8) (.var 1)) (.bin .emod (.var 2) (.lit 16))))
def q48 : E := (.bin .le (.un (.wrap .u8) (.var 1)) (.var 16))
def q49 : E := (.bin .le (.bin .mul (.un (.wrap .u8) (.var 0)) (.lit 1)) (.var 16))
def q50 : E := (.bin .lt (.var 16) (.un (.wrap .u8) (.var 0)))
def q51 : E := (.bin .le (.lit 0) (.var 16))
def q52 : E := (.bin .le (.var 16) (.un (.wrap .u8) (.var 0)))
def q53 : E := (.bin .le (.bin .emod (.var 2) (.lit 16)) (.lit 10))
def q54 : E := (.bin .le (.bin .add (.un (.wrap .u8) (.var 1)) (.bin .emod (.var 2) (.lit 16))) (.var 16))
def q55 : E := (.bin .lt (.var 16) (.un (.wrap .u8) (.var 1)))
def q56 : E := (.bin .eq (.ite (.bin .and (.bin .le (.lit 0) (.var 16)) (.bin .lt (.var 16) (.var 5))) (.lit (-1)) (.lit 0)) (.lit (-1)))
def q57 : E := (.bin .lt (.var 16) (.bin .mul (.un (.wrap .u8) (.var 0)) (.lit 1)))
def q58 : E := (.bin .le (.un (.wrap .u8) (.var 0)) (.var 16))
def q59 : E := (.bin .lt (.bin .sub (.bin .mul (.un (.wrap .u8) (.var 0)) (.lit 1)) (.un (.wrap .u8) (.var 1))) (.lit 10))
def q60 : E := (.bin .le (.lit 10) (.bin .sub (.bin .mul (.un (.wrap .u8) (.var 0)) (.lit 1)) (.un (.wrap .u8) (.var 1))))
def q61 : E := (.bin .eq (.ite (.bin .and (.bin .le (.bin .sub (.lit 9) (.bin .sub (.lit 0) (.un (.wrap .u8) (.var 1)))) (.var 16)) (.bin .lt (.var 16) (.bin .sub (.lit 10) (.bin .sub (.lit 0) (.un (.wrap .u8) (.var 1)))))) (.lit 109) (.ite (.bin .and (.bin .le (.bin .sub (.lit 8) (.bin .sub (.lit 0) (.un (.wrap .u8) (.var 1)))) (.var 16)) (.bin .lt (.var 16) (.bin .sub (.lit 9) (.bin .sub (.lit 0) (.un (.wrap .u8) (.var 1)))))) (.lit 108) (.ite (.bin .and (.bin .le (.bin .sub (.lit 7) (.bin .sub (.lit 0) (.un (.wrap .u8) (.var 1)))) (.var 16)) (.bin .lt (.var 16) (.bin .sub (.lit 8) (.bin .sub (.lit 0) (.un (.wrap .u8) (.var 1)))))) (.lit 107) (.ite (.bin .and (.bin .le (.bin .sub (.lit 6) (.bin .sub (.lit 0) (.un (.wrap .u8) (.var 1)))) (.var 16)) (.bin .lt (.var 16) (.bin .sub (.lit 7) (.bin .sub (.lit 0) (.un (.wrap .u8) (.var 1)))))) (.lit 106) (.ite (.bin .and (.bin .le (.bin .sub (.lit 5) (.bin .sub (.lit 0) (.un (.wrap .u8) (.var 1)))) (.var 16)) (.bin .lt (.var 16) (.bin .sub (.lit 6) (.bin .sub (.lit 0) (.un (.wrap .u8) (.var 1)))))) (.lit 105) (.ite (.bin .and (.bin .le (.bin .sub (.lit 4) (.bin .sub (.lit 0) (.un (.wrap .u8) (.var 1)))) (.var 16)) (.bin .lt (.var 16) (.bin .sub (.lit 5) (.bin .sub (.lit 0) (.un (.wrap .u8) (.var 1)))))) (.lit 104) (.ite (.bin .and (.bin .le (.bin .sub (.lit 3) (.bin .sub (.lit 0) (.un (.wrap .u8) (.var 1)))) (.var 16)) (.bin .lt (.var 16) (.bin .sub (.lit 4) (.bin .sub (.lit 0) (.un (.wrap .u8) (.var 1)))))) (.lit 103) (.ite (.bin .and (.bin .le (.bin .sub (.lit 2) (.bin .sub (.lit 0) (.un (.wrap .u8) (.var 1)))) (.var 16)) (.bin .lt (.var 16) (.bin .sub (.lit 3) (.bin .sub (.lit 0) (.un (.wrap .u8) (.var 1)))))) (.lit 102) (.ite (.bin .and (.bin .le (.bin .sub (.lit 1) (.bin .sub (.lit 0) (.un (.wrap .u8) (.var 1)))) (.var 16)) (.bin .lt (.var 16) (.bin .sub (.lit 2) (.bin .sub (.lit 0) (.un (.wrap .u8) (.var 1)))))) (.lit 101) (.ite (.bin .and (.bin .le (.bin .sub (.lit 0) (.bin .sub (.lit 0) (.un (.wrap .u8) (.var 1)))) (.var 16)) (.bin .lt (.var 16) (.bin .sub (.lit 1) (.bin .sub (.lit 0) (.un (.wrap .u8) (.var 1)))))) (.lit 100) (.ite (.bin .and (.bin .le (.un (.wrap .u8) (.var 1)) (.var 16)) (.bin .lt (.var 16) (.bin .add (.un (.wrap .u8) (.var 1)) (.lit 10)))) (.lit 0) (.ite (.bin .and (.bin .le (.lit 0) (.var 16)) (.bin .lt (.var 16) (.var 5))) (.lit (-1)) (.lit 0))))))))))))) (.lit (-1)))
def q62 : E := (.bin .eq (.ite (.bin .and (.bin .le (.bin .sub (.lit 9) (.bin .sub (.lit 0) (.un (.wrap .u8) (.var 1)))) (.var 16)) (.bin .lt (.var 16) (.bin .sub (.lit 10) (.bin .sub (.lit 0) (.un (.wrap .u8) (.var 1)))))) (.lit 109) (.ite (.bin .and (.bin .le (.bin .sub (.lit 8) (.bin .sub (.lit 0) (.un (.wrap .u8) (.var 1)))) (.var 16)) (.bin .lt (.var 16) (.bin .sub (.lit 9) (.bin .sub (.lit 0) (.un (.wrap .u8) (.var 1)))))) (.lit 108) (.ite (.bin .and (.bin .le (.bin .sub (.lit 7) (.bin .sub (.lit 0) (.un (.wrap .u8) (.var 1)))) (.var 16)) (.bin .lt (.var 16) (.bin .sub (.lit 8) (.bin .sub (.lit 0) (.un (.wrap .u8) (.var 1)))))) (.lit 107) (.ite (.bin .and (.bin .le (.bin .sub (.lit 6) (.bin .sub (.lit 0) (.un (.wrap .u8) (.var 1)))) (.var 16)) (.bin .lt (.var 16) (.bin .sub (.lit 7) (.bin .sub (.lit 0) (.un (.wrap .u8) (.var 1)))))) (.lit 106) (.ite (.bin .and (.bin .le (.bin .sub (.lit 5) (.bin .sub (.lit 0) (.un (.wrap .u8) (.var 1)))) (.var 16)) (.bin .lt (.var 16) (.bin .sub (.lit 6) (.bin .sub (.lit 0) (.un (.wrap .u8) (.var 1)))))) (.lit 105) (.ite (.bin .and (.bin .le (.bin .sub (.lit 4) (.bin .sub (.lit 0) (.un (.wrap .u8) (.var 1)))) (.var 16)) (.bin .lt (.var 16) (.bin .sub (.lit 5) (.bin .sub (.lit 0) (.un (.wrap .u8) (.var 1)))))) (.lit 104) (.ite (.bin .and (.bin .le (.bin .sub (.lit 3) (.bin .sub (.lit 0) (.un (.wrap .u8) (.var 1)))) (.var 16)) (.bin .lt (.var 16) (.bin .sub (.lit 4) (.bin .sub (.lit 0) (.un (.wrap .u8) (.var 1)))))) (.lit 103) (.ite (.bin .and (.bin .le (.bin .sub (.lit 2) (.bin .sub (.lit 0) (.un (.wrap .u8) (.var 1)))) (.var 16)) (.bin .lt (.var 16) (.bin .sub (.lit 3) (.bin .sub (.lit 0) (.un (.wrap .u8) (.var 1)))))) (.lit 102) (.ite (.bin .and (.bin .le (.bin .sub (.lit 1) (.bin .sub (.lit 0) (.un (.wrap .u8) (.var 1)))) (.var 16)) (.bin .lt (.var 16) (.bin .sub (.lit 2) (.bin .sub (.lit 0) (.un (.wrap .u8) (.var 1)))))) (.lit 101) (.ite (.bin .and (.bin .le (.bin .sub (.lit 0) (.bin .sub (.lit 0) (.un (.wrap .u8) (.var 1)))) (.var 16)) (.bin .lt (.var 16) (.bin .sub (.lit 1) (.bin .sub (.lit 0) (.un (.wrap .u8) (.var 1)))))) (.lit 100) (.ite (.bin .and (.bin .le (.un (.wrap .u8) (.var 1)) (.var 16)) (.bin .lt (.var 16) (.bin .add (.un (.wrap .u8) (.var 1)) (.lit 10)))) (.lit 0) (.ite (.bin .and (.bin .le (.lit 0) (.var 16)) (.bin .lt (.var 16) (.var 5))) (.lit (-1)) (.lit 0))))))))))))) (.bin .add (.bin .sub (.var 16) (.un (.wrap .u8) (.var 1))) (.lit 100)))
def q63 : E := (.bin .eq (.ite (.bin .and (.bin .le (.bin .sub (.lit 9) (.bin .sub (.lit 0) (.un (.wrap .u8) (.var 1)))) (.un (.wrap .u8) (.var 0))) (.bin .lt (.un (.wrap .u8) (.var 0)) (.bin .sub (.lit 10) (.bin .sub (.lit 0) (.un (.wrap .u8) (.var 1)))))) (.lit 109) (.ite (.bin .and (.bin .le (.bin .sub (.lit 8) (.bin .sub (.lit 0) (.un (.wrap .u8) (.var 1)))) (.un (.wrap .u8) (.var 0))) (.bin .lt (.un (.wrap .u8) (.var 0)) (.bin .sub (.lit 9) (.bin .sub (.lit 0) (.un (.wrap .u8) (.var 1)))))) (.lit 108) (.ite (.bin .and (.bin .le (.bin .sub (.lit 7) (.bin .sub (.lit 0) (.un (.wrap .u8) (.var 1)))) (.un (.wrap .u8) (.var 0))) (.bin .lt (.un (.wrap .u8) (.var 0)) (.bin .sub (.lit 8) (.bin .sub (.lit 0) (.un (.wrap .u8) (.var 1)))))) (.lit 107) (.ite (.bin .and (.bin .le (.bin .sub (.lit 6) (.bin .sub (.lit 0) (.un (.wrap .u8) (.var 1)))) (.un (.wrap .u8) (.var 0))) (.bin .lt (.un (.wrap .u8) (.var 0)) (.bin .sub (.lit 7) (.bin .sub (.lit 0) (.un (.wrap .u8) (.var 1)))))) (.lit 106) (.ite (.bin .and (.bin .le (.bin .sub (.lit 5) (.bin .sub (.lit 0) (.un (.wrap .u8) (.var 1)))) (.un (.wrap .u8) (.var 0))) (.bin .lt (.un (.wrap .u8) (.var 0)) (.bin .sub (.lit 6) (.bin .sub (.lit 0) (.un (.wrap .u8) (.var 1)))))) (.lit 105) (.ite (.bin .and (.bin .le (.bin .sub (.lit 4) (.bin .sub (.lit 0) (.un (.wrap .u8) (.var 1)))) (.un (.wrap .u8) (.var 0))) (.bin .lt (.un (.wrap .u8) (.var 0)) (.bin .sub (.lit 5) (.bin .sub (.lit 0) (.un (.wrap .u8) (.var 1)))))) (.lit 104) (.ite (.bin .and (.bin .le (.bin .sub (.lit 3) (.bin .sub (.lit 0) (.un (.wrap .u8) (.var 1)))) (.un (.wrap .u8) (.var 0))) (.bin .lt (.un (.wrap .u8) (.var 0)) (.bin .sub (.lit 4) (.bin .sub (.lit 0) (.un (.wrap .u8) (.var 1)))))) (.lit 103) (.ite (.bin .and (.bin .le (.bin .sub (.lit 2) (.bin .sub (.lit 0) (.un (.wrap .u8) (.var 1)))) (.un (.wrap .u8) (.var 0))) (.bin .lt (.un (.wrap .u8) (.var 0)) (.bin .sub (.lit 3) (.bin .sub (.lit 0) (.un (.wrap .u8) (.var 1)))))) (.lit 102) (.ite (.bin .and (.bin .le (.bin .sub (.lit 1) (.bin .sub (.lit 0) (.un (.wrap .u8) (.var 1)))) (.un (.wrap .u8) (.var 0))) (.bin .lt (.un (.wrap .u8) (.var 0)) (.bin .sub (.lit 2) (.bin .sub (.lit 0) (.un (.wrap .u8) (.var 1)))))) (.lit 101) (.ite (.bin .and (.bin .le (.bin .sub (.lit 0) (.bin .sub (.lit 0) (.un (.wrap .u8) (.var 1)))) (.un (.wrap .u8) (.var 0))) (.bin .lt (.un (.wrap .u8) (.var 0)) (.bin .sub (.lit 1) (.bin .sub (.lit 0) (.un (.wrap .u8) (.var 1)))))) (.lit 100) (.ite (.bin .and (.bin .le (.un (.wrap .u8) (.var 1)) (.un (.wrap .u8) (.var 0))) (.bin .lt (.un (.wrap .u8) (.var 0)) (.bin .add (.un (.wrap .u8) (.var 1)) (.lit 10)))) (.lit 0) (.ite (.bin .and (.bin .le (.lit 0) (.un (.wrap .u8) (.var 0))) (.bin .lt (.un (.wrap .u8) (.var 0)) (.var 5))) (.lit (-1)) (.lit 0))))))))))))) (.lit (-1)))
def q64 : E := (.bin .le (.lit 11) (.var 15))
def q65 : E := (.bin .le (.lit 10) (.var 14))
def q66 : E := (.bin .le (.lit 9) (.var 13))
def q67 : E := (.bin .le (.lit 8) (.var 12))
def q68 : E := (.bin .le (.lit 7) (.var 11))
def q69 : E := (.bin .le (.lit 6) (.var 10))
def q70 : E := (.bin .le (.lit 5) (.var 9))
def q71 : E := (.bin .le (.lit 4) (.var 8))
def q72 : E := (.bin .le (.lit 3) (.var 7))
def q73 : E := (.bin .le (.lit 2) (.var 6))
def q74 : E := (.bin .lt (.bin .mul (.un (.wrap .u8) (.var 0)) (.lit 1)) (.lit 1))
def q75 : E := (.bin .lt (.var 15) (.bin .add (.un (.wrap .u8) (.var 1)) (.bin .emod (.var 2) (.lit 16))))
def q76 : E := (.bin .le (.un (.wrap .u8) (.var 1)) (.var 15))
def q77 : E := (.bin .lt (.var 15) (.un (.wrap .u8) (.var 0)))
def q78 : E := (.bin .le (.lit 0) (.var 15))
def q79 : E := (.bin .le (.var 15) (.un (.wrap .u8) (.var 0)))
def q80 : E := (.bin .le (.bin .add (.un (.wrap .u8) (.var 1)) (.bin .emod (.var 2) (.lit 16))) (.var 15))
def q81 : E := (.bin .lt (.var 15) (.un (.wrap .u8) (.var 1)))
def q82 : E := (.bin .le (.un (.wrap .u8) (.var 0)) (.var 15))
def lawR : List Leaf := [
  ([q0, q1, q2, q3, q4, q5, q6, q7, q8, q9, q10, q11, q12, q13, q14, q15, q16, q17, q18, q19, q20, q21, q22, q23, q24, q25, q26, q27, q28, q29], .bool (.lit 0)),
  ([q30, q1, q2, q3, q4, q5, q6, q7, q8, q9, q10, q11, q12, q13, q14, q15, q16, q17, q18, q19, q20, q21, q22, q23, q24, q25, q26, q27, q28, q29], .bool (.lit 0)),
  ([q31, q2, q3, q4, q5, q6, q7, q8, q9, q10, q11, q12, q13, q14, q15, q16, q17, q18, q19, q20, q21, q22, q23, q24, q25, q26, q27, q28, q29], .bool (.lit 0)),
  ([q32, q3, q4, q5, q6, q7, q8, q9, q10, q11, q12, q13, q14, q15, q16, q17, q18, q19, q20, q21, q22, q23, q24, q25, q26, q27, q28, q29], .bool (.lit 0)),
  ([q0, q1, q2, q33, q34, q4, q5, q6, q7, q8, q9, q10, q11, q12, q13, q14, q15, q16, q17, q18, q19, q20, q21, q22, q23, q24, q25, q26, q27, q28, q29], .bool (.lit 0)),
  ([q0, q1, q2, nt q33, q34, q4, q5, q6, q7, q8, q9, q10, q11, q12, q13, q14, q15, q16, q17, q18, q19, q20, q21, q22, q23, q24, q25, q26, q27, q28, q29], .bool (.lit 0)),
  ([q30, q1, q2, nt q33, q34, q4, q5, q6, q7, q8, q9, q10, q11, q12, q13, q14, q15, q16, q17, q18, q19, q20, q21, q22, q23, q24, q25, q26, q27, q28, q29], .bool (.lit 0)),
  ([q31, q2, nt q33, q34, q4, q5, q6, q7, q8, q9, q10, q11, q12, q13, q14, q15, q16, q17, q18, q19, q20, q21, q22, q23, q24, q25, q26, q27, q28, q29], .bool (.lit 0)),
  ([q32, nt q33, q34, q4, q5, q6, q7, q8, q9, q10, q11, q12, q13, q14, q15, q16, q17, q18, q19, q20, q21, q22, q23, q24, q25, q26, q27, q28, q29], .bool (.lit 0)),
  ([q35, q36, q37, q5, q6, q7, q8, q9, q10, q11, q12, q13, q14, q15, q16, q17, q18, q19, q20, q21, q22, q23, q24, q25, q26, q27, q28, q29], .bool (.lit 1)),
  ([nt q35, q36, q37, q5, q6, q7, q8, q9, q10, q11, q12, q13, q14, q15, q16, q17, q18, q19, q20, q21, q22, q23, q24, q25, q26, q27, q28, q29], .bool (.lit 0)),
  ([q35, q38, q39, q37, q5, q6, q7, q8, q9, q10, q11, q12, q13, q14, q15, q16, q17, q18, q19, q20, q21, q22, q23, q24, q25, q26, q27, q28, q29], .bool (.lit 0)),
  ([nt q35, q38, q39, q37, q5, q6, q7, q8, q9, q10, q11, q12, q13, q14, q15, q16, q17, q18, q19, q20, q21, q22, q23, q24, q25, q26, q27, q28, q29], .bool (.lit 0)),
  ([q35, nt q38, q39, q37, q5, q6, q7, q8, q9, q10, q11, q12, q13, q14, q15, q16, q17, q18, q19, q20, q21, q22, q23, q24, q25, q26, q27, q28, q29], .bool (.lit 0)),
  ([nt q35, nt q38, q39, q37, q5, q6, q7, q8, q9, q10, q11, q12, q13, q14, q15, q16, q17, q18, q19, q20, q21, q22, q23, q24, q25, q26, q27, q28, q29], .bool (.lit 0)),
  ([q0, q1, q2, q3, q4, q5, q6, q40, q41, q8, q9, q10, q11, q12, q13, q14, q15, q16, q17, q18, q19, q20, q21, q22, q23, q24, q25, q26, q27, q28, q29], .bool (.lit 0)),
  ([q30, q1, q2, q3, q4, q5, q6, q40, q41, q8, q9, q10, q11, q12, q13, q14, q15, q16, q17, q18, q19, q20, q21, q22, q23, q24, q25, q26, q27, q28, q29], .bool (.lit 0)),
  ([q31, q2, q3, q4, q5, q6, q40, q41, q8, q9, q10, q11, q12, q13, q14, q15, q16, q17, q18, q19, q20, q21, q22, q23, q24, q25, q26, q27, q28, q29], .bool (.lit 0)),
  ([q32, q3, q4, q5, q6, q40, q41, q8, q9, q10, q11, q12, q13, q14, q15, q16, q17, q18, q19, q20, q21, q22, q23, q24, q25, q26, q27, q28, q29], .bool (.lit 0)),
  ([q0, q1, q2, q33, q34, q4, q5, q6, q40, q41, q8, q9, q10, q11, q12, q13, q14, q15, q16, q17, q18, q19, q20, q21, q22, q23, q24, q25, q26, q27, q28, q29], .bool (.lit 0)),
  ([q0, q1, q2, nt q33, q34, q4, q5, q6, q40, q41, q8, q9, q10, q11, q12, q13, q14, q15, q16, q17, q18, q19, q20, q21, q22, q23, q24, q25, q26, q27, q28, q29], .bool (.lit 0)),
  ([q30, q1, q2, nt q33, q34, q4, q5, q6, q40, q41, q8, q9, q10, q11, q12, q13, q14, q15, q16, q17, q18, q19, q20, q21, q22, q23, q24, q25, q26, q27, q28, q29], .bool (.lit 0)),
  ([q31, q2, nt q33, q34, q4, q5, q6, q40, q41, q8, q9, q10, q11, q12, q13, q14, q15, q16, q17, q18, q19, q20, q21, q22, q23, q24, q25, q26, q27, q28, q29], .bool (.lit 0)),
  ([q32, nt q33, q34, q4, q5, q6, q40, q41, q8, q9, q10, q11, q12, q13, q14, q15, q16, q17, q18, q19, q20, q21, q22, q23, q24, q25, q26, q27, q28, q29], .bool (.lit 0)),
  ([q35, q36, q37, q5, q6, q40, q41, q8, q9, q10, q11, q12, q13, q14, q15, q16, q17, q18, q19, q20, q21, q22, q23, q24, q25, q26, q27, q28, q29], .bool (.lit 1)),
  ([nt q35, q36, q37, q5, q6, q40, q41, q8, q9, q10, q11, q12, q13, q14, q15, q16, q17, q18, q19, q20, q21, q22, q23, q24, q25, q26, q27, q28, q29], .bool (.lit 0)),
  ([q35, q38, q39, q37, q5, q6, q40, q41, q8, q9, q10, q11, q12, q13, q14, q15, q16, q17, q18, q19, q20, q21, q22, q23, q24, q25, q26, q27, q28, q29], .bool (.lit 0)),
  ([nt q35, q38, q39, q37, q5, q6, q40, q41, q8, q9, q10, q11, q12, q13, q14, q15, q16, q17, q18, q19, q20, q21, q22, q23, q24, q25, q26, q27, q28, q29], .bool (.lit 0)),
  ([q35, nt q38, q39, q37, q5, q6, q40, q41, q8, q9, q10, q11, q12, q13, q14, q15, q16, q17, q18, q19, q20, q21, q22, q23, q24, q25, q26, q27, q28, q29], .bool (.lit 0)),
  ([nt q35, nt q38, q39, q37, q5, q6, q40, q41, q8, q9, q10, q11, q12, q13, q14, q15, q16, q17, q18, q19, q20, q21, q22, q23, q24, q25, q26, q27, q28, q29], .bool (.lit 0)),
  ([q0, q1, q2, q3, q4, q5, q6, q42, q41, q8, q9, q10, q11, q12, q13, q14, q15, q16, q17, q18, q19, q20, q21, q22, q23, q24, q25, q26, q27, q28, q29], .bool (.lit 0)),
  ([q30, q1, q2, q3, q4, q5, q6, q42, q41, q8, q9, q10, q11, q12, q13, q14, q15, q16, q17, q18, q19, q20, q21, q22, q23, q24, q25, q26, q27, q28, q29], .bool (.lit 0)),
  ([q31, q2, q3, q4, q5, q6, q42, q41, q8, q9, q10, q11, q12, q13, q14, q15, q16, q17, q18, q19, q20, q21, q22, q23, q24, q25, q26, q27, q28, q29], .bool (.lit 0)),
  ([q32, q3, q4, q5, q6, q42, q41, q8, q9, q10, q11, q12, q13, q14, q15, q16, q17, q18, q19, q20, q21, q22, q23, q24, q25, q26, q27, q28, q29], .bool (.lit 0)),
  ([q0, q1, q2, q43, q34, q4, q5, q6, q42, q41, q8, q9, q10, q11, q12, q13, q14, q15, q16, q17, q18, q19, q20, q21, q22, q23, q24, q25, q26, q27, q28, q29], .bool (.lit 0)),
  ([nt q44, q0, q1, q2, nt q43, q34, q4, q5, q6, q42, q41, q8, q9, q10, q11, q12, q13, q14, q15, q16, q17, q18, q19, q20, q21, q22, q23, q24, q25, q26, q27, q28, q29], .bool (.lit 0)),
  ([q30, q1, q2, nt q43, q34, q4, q5, q6, q42, q41, q8, q9, q10, q11, q12, q13, q14, q15, q16, q17, q18, q19, q20, q21, q22, q23, q24, q25, q26, q27, q28, q29], .bool (.lit 0)),
  ([q31, q2, nt q43, q34, q4, q5, q6, q42, q41, q8, q9, q10, q11, q12, q13, q14, q15, q16, q17, q18, q19, q20, q21, q22, q23, q24, q25, q26, q27, q28, q29], .bool (.lit 0)),
  ([q32, nt q43, q34, q4, q5, q6, q42, q41, q8, q9, q10, q11, q12, q13, q14, q15, q16, q17, q18, q19, q20, q21, q22, q23, q24, q25, q26, q27, q28, q29], .bool (.lit 0)),
  ([q45, q36, q37, q5, q6, q42, q41, q8, q9, q10, q11, q12, q13, q14, q15, q16, q17, q18, q19, q20, q21, q22, q23, q24, q25, q26, q27, q28, q29], .bool (.lit 1)),
  ([nt q45, q36, q37, q5, q6, q42, q41, q8, q9, q10, q11, q12, q13, q14, q15, q16, q17, q18, q19, q20, q21, q22, q23, q24, q25, q26, q27, q28, q29], .bool (.lit 0)),
  ([q45, q46, q39, q37, q5, q6, q42, q41, q8, q9, q10, q11, q12, q13, q14, q15, q16, q17, q18, q19, q20, q21, q22, q23, q24, q25, q26, q27, q28, q29], .bool (.lit 0)),
  ([nt q45, q46, q39, q37, q5, q6, q42, q41, q8, q9, q10, q11, q12, q13, q14, q15, q16, q17, q18, q19, q20, q21, q22, q23, q24, q25, q26, q27, q28, q29], .bool (.lit 0)),
  ([q45, nt q46, q39, q37, q5, q6, q42, q41, q8, q9, q10, q11, q12, q13, q14, q15, q16, q17, q18, q19, q20, q21, q22, q23, q24, q25, q26, q27, q28, q29], .bool (.lit 0)),
  ([nt q45, nt q46, q39, q37, q5, q6, q42, q41, q8, q9, q10, q11, q12, q13, q14, q15, q16, q17, q18, q19, q20, q21, q22, q23, q24, q25, q26, q27, q28, q29], .bool (.lit 0)),
  ([q47, q48, q2, q49, q50, q51, q52, q7, q53, q10, q11, q12, q13, q14, q15, q16, q17, q18, q19, q20, q21, q22, q23, q24, q25, q26, q27, q28, q29], .bool (.lit 0)),
  ([q54, q48, q2, q49, q50, q51, q52, q7, q53, q10, q11, q12, q13, q14, q15, q16, q17, q18, q19, q20, q21, q22, q23, q24, q25, q26, q27, q28, q29], .bool (.lit 0)),
  ([q55, q2, q49, q50, q51, q52, q7, q53, q10, q11, q12, q13, q14, q15, q16, q17, q18, q19, q20, q21, q22, q23, q24, q25, q26, q27, q28, q29], .bool (.lit 0)),
  ([q32, q49, q50, q51, q52, q7, q53, q10, q11, q12, q13, q14, q15, q16, q17, q18, q19, q20, q21, q22, q23, q24, q25, q26, q27, q28, q29], .bool (.lit 0)),
  ([q47, q48, q2, q56, q57, q50, q51, q52, q7, q53, q10, q11, q12, q13, q14, q15, q16, q17, q18, q19, q20, q21, q22, q23, q24, q25, q26, q27, q28, q29], .bool (.lit 0)),
  ([q47, q48, q2, nt q56, q57, q50, q51, q52, q7, q53, q10, q11, q12, q13, q14, q15, q16, q17, q18, q19, q20, q21, q22, q23, q24, q25, q26, q27, q28, q29], .bool (.lit 0)),
  ([q54, q48, q2, nt q56, q57, q50, q51, q52, q7, q53, q10, q11, q12, q13, q14, q15, q16, q17, q18, q19, q20, q21, q22, q23, q24, q25, q26, q27, q28, q29], .bool (.lit 0)),
  ([q55, q2, nt q56, q57, q50, q51, q52, q7, q53, q10, q11, q12, q13, q14, q15, q16, q17, q18, q19, q20, q21, q22, q23, q24, q25, q26, q27, q28, q29], .bool (.lit 0)),
  ([q32, nt q56, q57, q50, q51, q52, q7, q53, q10, q11, q12, q13, q14, q15, q16, q17, q18, q19, q20, q21, q22, q23, q24, q25, q26, q27, q28, q29], .bool (.lit 0)),
  ([q35, q36, q58, q51, q52, q7, q53, q10, q11, q12, q13, q14, q15, q16, q17, q18, q19, q20, q21, q22, q23, q24, q25, q26, q27, q28, q29], .bool (.lit 1)),
  ([nt q35, q36, q58, q51, q52, q7, q53, q10, q11, q12, q13, q14, q15, q16, q17, q18, q19, q20, q21, q22, q23, q24, q25, q26, q27, q28, q29], .bool (.lit 0)),
  ([q35, q38, q39, q58, q51, q52, q7, q53, q10, q11, q12, q13, q14, q15, q16, q17, q18, q19, q20, q21, q22, q23, q24, q25, q26, q27, q28, q29], .bool (.lit 0)),
  ([nt q35, q38, q39, q58, q51, q52, q7, q53, q10, q11, q12, q13, q14, q15, q16, q17, q18, q19, q20, q21, q22, q23, q24, q25, q26, q27, q28, q29], .bool (.lit 0)),
  ([q35, nt q38, q39, q58, q51, q52, q7, q53, q10, q11, q12, q13, q14, q15, q16, q17, q18, q19, q20, q21, q22, q23, q24, q25, q26, q27, q28, q29], .bool (.lit 0)),
  ([nt q35, nt q38, q39, q58, q51, q52, q7, q53, q10, q11, q12, q13, q14, q15, q16, q17, q18, q19, q20, q21, q22, q23, q24, q25, q26, q27, q28, q29], .bool (.lit 0)),
  ([q47, q48, q2, q49, q50, q51, q52, q59, q41, q53, q10, q11, q12, q13, q14, q15, q16, q17, q18, q19, q20, q21, q22, q23, q24, q25, q26, q27, q28, q29], .bool (.lit 0)),
  ([q54, q48, q2, q49, q50, q51, q52, q59, q41, q53, q10, q11, q12, q13, q14, q15, q16, q17, q18, q19, q20, q21, q22, q23, q24, q25, q26, q27, q28, q29], .bool (.lit 0)),
  ([q55, q2, q49, q50, q51, q52, q59, q41, q53, q10, q11, q12, q13, q14, q15, q16, q17, q18, q19, q20, q21, q22, q23, q24, q25, q26, q27, q28, q29], .bool (.lit 0)),
  ([q32, q49, q50, q51, q52, q59, q41, q53, q10, q11, q12, q13, q14, q15, q16, q17, q18, q19, q20, q21, q22, q23, q24, q25, q26, q27, q28, q29], .bool (.lit 0)),
  ([q47, q48, q2, q56, q57, q50, q51, q52, q59, q41, q53, q10, q11, q12, q13, q14, q15, q16, q17, q18, q19, q20, q21, q22, q23, q24, q25, q26, q27, q28, q29], .bool (.lit 0)),
  ([q47, q48, q2, nt q56, q57, q50, q51, q52, q59, q41, q53, q10, q11, q12, q13, q14, q15, q16, q17, q18, q19, q20, q21, q22, q23, q24, q25, q26, q27, q28, q29], .bool (.lit 0)),
  ([q54, q48, q2, nt q56, q57, q50, q51, q52, q59, q41, q53, q10, q11, q12, q13, q14, q15, q16, q17, q18, q19, q20, q21, q22, q23, q24, q25, q26, q27, q28, q29], .bool (.lit 0)),
  ([q55, q2, nt q56, q57, q50, q51, q52, q59, q41, q53, q10, q11, q12, q13, q14, q15, q16, q17, q18, q19, q20, q21, q22, q23, q24, q25, q26, q27, q28, q29], .bool (.lit 0)),
  ([q32, nt q56, q57, q50, q51, q52, q59, q41, q53, q10, q11, q12, q13, q14, q15, q16, q17, q18, q19, q20, q21, q22, q23, q24, q25, q26, q27, q28, q29], .bool (.lit 0)),
  ([q35, q36, q58, q51, q52, q59, q41, q53, q10, q11, q12, q13, q14, q15, q16, q17, q18, q19, q20, q21, q22, q23, q24, q25, q26, q27, q28, q29], .bool (.lit 1)),
  ([nt q35, q36, q58, q51, q52, q59, q41, q53, q10, q11, q12, q13, q14, q15, q16, q17, q18, q19, q20, q21, q22, q23, q24, q25, q26, q27, q28, q29], .bool (.lit 0)),
  ([q35, q38, q39, q58, q51, q52, q59, q41, q53, q10, q11, q12, q13, q14, q15, q16, q17, q18, q19, q20, q21, q22, q23, q24, q25, q26, q27, q28, q29], .bool (.lit 0)),
  ([nt q35, q38, q39, q58, q51, q52, q59, q41, q53, q10, q11, q12, q13, q14, q15, q16, q17, q18, q19, q20, q21, q22, q23, q24, q25, q26, q27, q28, q29], .bool (.lit 0)),
  ([q35, nt q38, q39, q58, q51, q52, q59, q41, q53, q10, q11, q12, q13, q14, q15, q16, q17, q18, q19, q20, q21, q22, q23, q24, q25, q26, q27, q28, q29], .bool (.lit 0)),
  ([nt q35, nt q38, q39, q58, q51, q52, q59, q41, q53, q10, q11, q12, q13, q14, q15, q16, q17, q18, q19, q20, q21, q22, q23, q24, q25, q26, q27, q28, q29], .bool (.lit 0)),
  ([q47, q48, q2, q49, q50, q51, q52, q60, q41, q53, q10, q11, q12, q13, q14, q15, q16, q17, q18, q19, q20, q21, q22, q23, q24, q25, q26, q27, q28, q29], .bool (.lit 0)),
  ([q54, q48, q2, q49, q50, q51, q52, q60, q41, q53, q10, q11, q12, q13, q14, q15, q16, q17, q18, q19, q20, q21, q22, q23, q24, q25, q26, q27, q28, q29], .bool (.lit 0)),
  ([q55, q2, q49, q50, q51, q52, q60, q41, q53, q10, q11, q12, q13, q14, q15, q16, q17, q18, q19, q20, q21, q22, q23, q24, q25, q26, q27, q28, q29], .bool (.lit 0)),
  ([q32, q49, q50, q51, q52, q60, q41, q53, q10, q11, q12, q13, q14, q15, q16, q17, q18, q19, q20, q21, q22, q23, q24, q25, q26, q27, q28, q29], .bool (.lit 0)),
  ([q47, q48, q2, q61, q57, q50, q51, q52, q60, q41, q53, q10, q11, q12, q13, q14, q15, q16, q17, q18, q19, q20, q21, q22, q23, q24, q25, q26, q27, q28, q29], .bool (.lit 0)),
  ([nt q62, q47, q48, q2, nt q61, q57, q50, q51, q52, q60, q41, q53, q10, q11, q12, q13, q14, q15, q16, q17, q18, q19, q20, q21, q22, q23, q24, q25, q26, q27, q28, q29], .bool (.lit 0)),
  ([q54, q48, q2, nt q61, q57, q50, q51, q52, q60, q41, q53, q10, q11, q12, q13, q14, q15, q16, q17, q18, q19, q20, q21, q22, q23, q24, q25, q26, q27, q28, q29], .bool (.lit 0)),
  ([q55, q2, nt q61, q57, q50, q51, q52, q60, q41, q53, q10, q11, q12, q13, q14, q15, q16, q17, q18, q19, q20, q21, q22, q23, q24, q25, q26, q27, q28, q29], .bool (.lit 0)),
  ([q32, nt q61, q57, q50, q51, q52, q60, q41, q53, q10, q11, q12, q13, q14, q15, q16, q17, q18, q19, q20, q21, q22, q23, q24, q25, q26, q27, q28, q29], .bool (.lit 0)),
  ([q45, q36, q58, q51, q52, q60, q41, q53, q10, q11, q12, q13, q14, q15, q16, q17, q18, q19, q20, q21, q22, q23, q24, q25, q26, q27, q28, q29], .bool (.lit 1)),
  ([nt q45, q36, q58, q51, q52, q60, q41, q53, q10, q11, q12, q13, q14, q15, q16, q17, q18, q19, q20, q21, q22, q23, q24, q25, q26, q27, q28, q29], .bool (.lit 0)),
  ([q45, q63, q39, q58, q51, q52, q60, q41, q53, q10, q11, q12, q13, q14, q15, q16, q17, q18, q19, q20, q21, q22, q23, q24, q25, q26, q27, q28, q29], .bool (.lit 0)),
  ([nt q45, q63, q39, q58, q51, q52, q60, q41, q53, q10, q11, q12, q13, q14, q15, q16, q17, q18, q19, q20, q21, q22, q23, q24, q25, q26, q27, q28, q29], .bool (.lit 0)),
  ([q45, nt q63, q39, q58, q51, q52, q60, q41, q53, q10, q11, q12, q13, q14, q15, q16, q17, q18, q19, q20, q21, q22, q23, q24, q25, q26, q27, q28, q29], .bool (.lit 0)),
  ([nt q45, nt q63, q39, q58, q51, q52, q60, q41, q53, q10, q11, q12, q13, q14, q15, q16, q17, q18, q19, q20, q21, q22, q23, q24, q25, q26, q27, q28, q29], .bool (.lit 0)),
  ([q47, q48, q2, q50, q51, q52, q7, q64, q9, q65, q66, q67, q68, q69, q70, q71, q72, q73, q21, q74, q24, q25, q26, q27, q28, q29], .bool (.lit 0)),
  ([q54, q48, q2, q50, q51, q52, q7, q64, q9, q65, q66, q67, q68, q69, q70, q71, q72, q73, q21, q74, q24, q25, q26, q27, q28, q29], .bool (.lit 0)),
  ([q55, q2, q50, q51, q52, q7, q64, q9, q65, q66, q67, q68, q69, q70, q71, q72, q73, q21, q74, q24, q25, q26, q27, q28, q29], .bool (.lit 0)),
  ([q32, q50, q51, q52, q7, q64, q9, q65, q66, q67, q68, q69, q70, q71, q72, q73, q21, q74, q24, q25, q26, q27, q28, q29], .bool (.lit 0)),
  ([q35, q58, q51, q52, q7, q64, q9, q65, q66, q67, q68, q69, q70, q71, q72, q73, q21, q74, q24, q25, q26, q27, q28, q29], .bool (.lit 1)),
  ([nt q35, q58, q51, q52, q7, q64, q9, q65, q66, q67, q68, q69, q70, q71, q72, q73, q21, q74, q24, q25, q26, q27, q28, q29], .bool (.lit 0)),
  ([q2, q50, q51, q52, q41, q64, q9, q65, q66, q67, q68, q69, q70, q71, q72, q73, q21, q74, q24, q25, q26, q27, q28, q29], .bool (.lit 0)),
  ([q32, q50, q51, q52, q41, q64, q9, q65, q66, q67, q68, q69, q70, q71, q72, q73, q21, q74, q24, q25, q26, q27, q28, q29], .bool (.lit 0)),
  ([q35, q58, q51, q52, q41, q64, q9, q65, q66, q67, q68, q69, q70, q71, q72, q73, q21, q74, q24, q25, q26, q27, q28, q29], .bool (.lit 1)),
  ([nt q35, q58, q51, q52, q41, q64, q9, q65, q66, q67, q68, q69, q70, q71, q72, q73, q21, q74, q24, q25, q26, q27, q28, q29], .bool (.lit 0)),
  ([q75, q76, q2, q77, q78, q79, q7, q53, q65, q66, q67, q68, q69, q70, q71, q72, q73, q21, q74, q24, q25, q26, q27, q28, q29], .bool (.lit 0)),
  ([q80, q76, q2, q77, q78, q79, q7, q53, q65, q66, q67, q68, q69, q70, q71, q72, q73, q21, q74, q24, q25, q26, q27, q28, q29], .bool (.lit 0)),
  ([q81, q2, q77, q78, q79, q7, q53, q65, q66, q67, q68, q69, q70, q71, q72, q73, q21, q74, q24, q25, q26, q27, q28, q29], .bool (.lit 0)),
  ([q32, q77, q78, q79, q7, q53, q65, q66, q67, q68, q69, q70, q71, q72, q73, q21, q74, q24, q25, q26, q27, q28, q29], .bool (.lit 0)),
  ([q35, q82, q78, q79, q7, q53, q65, q66, q67, q68, q69, q70, q71, q72, q73, q21, q74, q24, q25, q26, q27, q28, q29], .bool (.lit 1)),
  ([nt q35, q82, q78, q79, q7, q53, q65, q66, q67, q68, q69, q70, q71, q72, q73, q21, q74, q24, q25, q26, q27, q28, q29], .bool (.lit 0)),
  ([q2, q77, q78, q79, q41, q53, q65, q66, q67, q68, q69, q70, q71, q72, q73, q21, q74, q24, q25, q26, q27, q28, q29], .bool (.lit 0)),
  ([q32, q77, q78, q79, q41, q53, q65, q66, q67, q68, q69, q70, q71, q72, q73, q21, q74, q24, q25, q26, q27, q28, q29], .bool (.lit 0)),
  ([q35, q82, q78, q79, q41, q53, q65, q66, q67, q68, q69, q70, q71, q72, q73, q21, q74, q24, q25, q26, q27, q28, q29], .bool (.lit 1)),
  ([nt q35, q82, q78, q79, q41, q53, q65, q66, q67, q68, q69, q70, q71, q72, q73, q21, q74, q24, q25, q26, q27, q28, q29], .bool (.lit 0))]
set_option maxRecDepth 100000 in
theorem lawRan : runOf Try.prog noOracle looped (bodies fns) [] 4000 10 [some .i64, some .i64, some .i64] [.bin .le (.lit 10) (.bin .emod (.var 2) (.lit 16)), .bin .le (.bin .emod (.var 2) (.lit 16)) (.lit 11)] = some lawR := by kernel_rfl
end Go.Proofs.Ytjgobpmhdeancaa.RunTablePutsD
