/- The law's own run by contracts: its ways that are not plainly true. No condition. -/
import Derived.Test.YtenebabkanehpaaGreatDoorATopTable
import Derived.KernelRfl
namespace Go.Proofs.YtenebabkanehpaaGreatDoor.LawTopTable
open Go Go.Sx Go.Gx
def q0 : E := (l 0)
def q1 : E := (.un .bnot (.bin .eq (.un (.wrap .u32) (.bin .add (.un (.wrap .u8) (.var 0)) (l 100))) (l 100)))
def q2 : E := (.bin .eq (.un (.wrap .u32) (.var 0)) (l 0))
def q3 : E := (.bin .lt (.var 0) (l 1))
def q4 : E := (.bin .le (l 0) (.var 0))
def q5 : E := (.bin .le (.un (.wrap .u32) (.var 0)) (l 1))
def q6 : E := (.bin .eq (.bin .emod (.var 1) (l 8)) (l 1))
def q7 : E := (.bin .le (l 1) (.var 0))
def q8 : E := (.bin .lt (.var 0) (l 0))
def q9 : E := (.un .bnot (.bin .eq (.un (.wrap .u32) (.bin .add (.var 0) (l 100))) (l 101)))
def q10 : E := (.bin .eq (.un (.wrap .u32) (.var 0)) (l 1))
def q11 : E := (.bin .lt (l 1) (.un (.wrap .u32) (.var 0)))
def q12 : E := (.bin .lt (.var 0) (l 2))
def q13 : E := (.bin .le (.un (.wrap .u32) (.var 0)) (l 2))
def q14 : E := (.bin .eq (.bin .emod (.var 1) (l 8)) (l 2))
def q15 : E := (.bin .le (l 2) (.var 0))
def q16 : E := (.un .bnot (.bin .eq (.un (.wrap .u32) (.bin .add (.un (.wrap .u8) (.var 0)) (l 100))) (l 101)))
def q17 : E := (.un .bnot (.bin .eq (.un (.wrap .u32) (.bin .add (.var 0) (l 100))) (l 102)))
def q18 : E := (.bin .eq (.un (.wrap .u32) (.var 0)) (l 2))
def q19 : E := (.bin .lt (l 2) (.un (.wrap .u32) (.var 0)))
def q20 : E := (.bin .lt (.var 0) (l 3))
def q21 : E := (.bin .le (.un (.wrap .u32) (.var 0)) (l 3))
def q22 : E := (.bin .eq (.bin .emod (.var 1) (l 8)) (l 3))
def q23 : E := (.bin .le (l 3) (.var 0))
def q24 : E := (.un .bnot (.bin .eq (.un (.wrap .u32) (.bin .add (.un (.wrap .u8) (.var 0)) (l 100))) (l 102)))
def q25 : E := (.un .bnot (.bin .eq (.un (.wrap .u32) (.bin .add (.var 0) (l 100))) (l 103)))
def q26 : E := (.bin .eq (.un (.wrap .u32) (.var 0)) (l 3))
def q27 : E := (.bin .lt (l 3) (.un (.wrap .u32) (.var 0)))
def q28 : E := (.bin .lt (.var 0) (l 4))
def q29 : E := (.bin .le (.un (.wrap .u32) (.var 0)) (l 4))
def q30 : E := (.bin .eq (.bin .emod (.var 1) (l 8)) (l 4))
def q31 : E := (.bin .le (l 4) (.var 0))
def q32 : E := (.un .bnot (.bin .eq (.un (.wrap .u32) (.bin .add (.un (.wrap .u8) (.var 0)) (l 100))) (l 103)))
def q33 : E := (.un .bnot (.bin .eq (.un (.wrap .u32) (.bin .add (.var 0) (l 100))) (l 104)))
def q34 : E := (.bin .eq (.un (.wrap .u32) (.var 0)) (l 4))
def q35 : E := (.bin .lt (l 4) (.un (.wrap .u32) (.var 0)))
def q36 : E := (.bin .lt (.var 0) (l 5))
def q37 : E := (.bin .le (.un (.wrap .u32) (.var 0)) (l 5))
def q38 : E := (.bin .eq (.bin .emod (.var 1) (l 8)) (l 5))
def q39 : E := (.bin .le (l 5) (.var 0))
def q40 : E := (.un .bnot (.bin .eq (.un (.wrap .u32) (.bin .add (.un (.wrap .u8) (.var 0)) (l 100))) (l 104)))
def q41 : E := (.un .bnot (.bin .eq (.un (.wrap .u32) (.bin .add (.var 0) (l 100))) (l 105)))
def q42 : E := (.bin .eq (.un (.wrap .u32) (.var 0)) (l 5))
def q43 : E := (.bin .lt (l 5) (.un (.wrap .u32) (.var 0)))
def q44 : E := (.bin .lt (.var 0) (l 6))
def q45 : E := (.bin .le (.un (.wrap .u32) (.var 0)) (l 6))
def q46 : E := (.bin .eq (.bin .emod (.var 1) (l 8)) (l 6))
def q47 : E := (.bin .le (l 6) (.var 0))
def q48 : E := (.un .bnot (.bin .eq (.un (.wrap .u32) (.bin .add (.un (.wrap .u8) (.var 0)) (l 100))) (l 105)))
def q49 : E := (.un .bnot (.bin .eq (.un (.wrap .u32) (.bin .add (.var 0) (l 100))) (l 106)))
def q50 : E := (.bin .eq (.un (.wrap .u32) (.var 0)) (l 6))
def q51 : E := (.bin .lt (l 6) (.un (.wrap .u32) (.var 0)))
def q52 : E := (.bin .lt (.var 0) (l 7))
def q53 : E := (.bin .le (.un (.wrap .u32) (.var 0)) (l 7))
def q54 : E := (.bin .eq (.bin .emod (.var 1) (l 8)) (l 7))
def q55 : E := (.bin .le (l 7) (.var 0))
def q56 : E := (.un .bnot (.bin .eq (.un (.wrap .u32) (.bin .add (.un (.wrap .u8) (.var 0)) (l 100))) (l 106)))
def q57 : E := (.un .bnot (.bin .eq (.un (.wrap .u32) (.bin .add (.var 0) (l 100))) (l 107)))
def q58 : E := (.bin .eq (.un (.wrap .u32) (.var 0)) (l 7))
def q59 : E := (.bin .lt (l 7) (.un (.wrap .u32) (.var 0)))
def lawT : Tm := ⟨[],
 [(some (-9223372036854775808), some 9223372036854775807), (some (-9223372036854775808), some 9223372036854775807)], [],
 [.int .i64 (.var 0), .int .i64 (.var 1)]⟩
def lawBad : List (List E × E) := [([q1, q2, q3, q4, q2, q5, q6], q0),
  ([q1, q2, q7, q4, q2, q5, q6], q0),
  ([q1, q2, q8, q2, q5, q6], q0),
  ([q9, q10, q3, q4, q10, q5, q6], q0),
  ([q9, q3, q4, q11, q6], q0),
  ([q1, q2, q12, q4, q2, q13, q14], q0),
  ([q1, q2, q15, q4, q2, q13, q14], q0),
  ([q1, q2, q8, q2, q13, q14], q0),
  ([q16, q10, q12, q4, q10, q13, q14], q0),
  ([q16, q10, q15, q4, q10, q13, q14], q0),
  ([q16, q10, q8, q10, q13, q14], q0),
  ([q17, q18, q12, q4, q18, q13, q14], q0),
  ([q17, q12, q4, q19, q14], q0),
  ([q1, q2, q20, q4, q2, q21, q22], q0),
  ([q1, q2, q23, q4, q2, q21, q22], q0),
  ([q1, q2, q8, q2, q21, q22], q0),
  ([q16, q10, q20, q4, q10, q21, q22], q0),
  ([q16, q10, q23, q4, q10, q21, q22], q0),
  ([q16, q10, q8, q10, q21, q22], q0),
  ([q24, q18, q20, q4, q18, q21, q22], q0),
  ([q24, q18, q23, q4, q18, q21, q22], q0),
  ([q24, q18, q8, q18, q21, q22], q0),
  ([q25, q26, q20, q4, q26, q21, q22], q0),
  ([q25, q20, q4, q27, q22], q0),
  ([q1, q2, q28, q4, q2, q29, q30], q0),
  ([q1, q2, q31, q4, q2, q29, q30], q0),
  ([q1, q2, q8, q2, q29, q30], q0),
  ([q16, q10, q28, q4, q10, q29, q30], q0),
  ([q16, q10, q31, q4, q10, q29, q30], q0),
  ([q16, q10, q8, q10, q29, q30], q0),
  ([q24, q18, q28, q4, q18, q29, q30], q0),
  ([q24, q18, q31, q4, q18, q29, q30], q0),
  ([q24, q18, q8, q18, q29, q30], q0),
  ([q32, q26, q28, q4, q26, q29, q30], q0),
  ([q32, q26, q31, q4, q26, q29, q30], q0),
  ([q32, q26, q8, q26, q29, q30], q0),
  ([q33, q34, q28, q4, q34, q29, q30], q0),
  ([q33, q28, q4, q35, q30], q0),
  ([q1, q2, q36, q4, q2, q37, q38], q0),
  ([q1, q2, q39, q4, q2, q37, q38], q0),
  ([q1, q2, q8, q2, q37, q38], q0),
  ([q16, q10, q36, q4, q10, q37, q38], q0),
  ([q16, q10, q39, q4, q10, q37, q38], q0),
  ([q16, q10, q8, q10, q37, q38], q0),
  ([q24, q18, q36, q4, q18, q37, q38], q0),
  ([q24, q18, q39, q4, q18, q37, q38], q0),
  ([q24, q18, q8, q18, q37, q38], q0),
  ([q32, q26, q36, q4, q26, q37, q38], q0),
  ([q32, q26, q39, q4, q26, q37, q38], q0),
  ([q32, q26, q8, q26, q37, q38], q0),
  ([q40, q34, q36, q4, q34, q37, q38], q0),
  ([q40, q34, q39, q4, q34, q37, q38], q0),
  ([q40, q34, q8, q34, q37, q38], q0),
  ([q41, q42, q36, q4, q42, q37, q38], q0),
  ([q41, q36, q4, q43, q38], q0),
  ([q1, q2, q44, q4, q2, q45, q46], q0),
  ([q1, q2, q47, q4, q2, q45, q46], q0),
  ([q1, q2, q8, q2, q45, q46], q0),
  ([q16, q10, q44, q4, q10, q45, q46], q0),
  ([q16, q10, q47, q4, q10, q45, q46], q0),
  ([q16, q10, q8, q10, q45, q46], q0),
  ([q24, q18, q44, q4, q18, q45, q46], q0),
  ([q24, q18, q47, q4, q18, q45, q46], q0),
  ([q24, q18, q8, q18, q45, q46], q0),
  ([q32, q26, q44, q4, q26, q45, q46], q0),
  ([q32, q26, q47, q4, q26, q45, q46], q0),
  ([q32, q26, q8, q26, q45, q46], q0),
  ([q40, q34, q44, q4, q34, q45, q46], q0),
  ([q40, q34, q47, q4, q34, q45, q46], q0),
  ([q40, q34, q8, q34, q45, q46], q0),
  ([q48, q42, q44, q4, q42, q45, q46], q0),
  ([q48, q42, q47, q4, q42, q45, q46], q0),
  ([q48, q42, q8, q42, q45, q46], q0),
  ([q49, q50, q44, q4, q50, q45, q46], q0),
  ([q49, q44, q4, q51, q46], q0),
  ([q1, q2, q52, q4, q2, q53, q54], q0),
  ([q1, q2, q55, q4, q2, q53, q54], q0),
  ([q1, q2, q8, q2, q53, q54], q0),
  ([q16, q10, q52, q4, q10, q53, q54], q0),
  ([q16, q10, q55, q4, q10, q53, q54], q0),
  ([q16, q10, q8, q10, q53, q54], q0),
  ([q24, q18, q52, q4, q18, q53, q54], q0),
  ([q24, q18, q55, q4, q18, q53, q54], q0),
  ([q24, q18, q8, q18, q53, q54], q0),
  ([q32, q26, q52, q4, q26, q53, q54], q0),
  ([q32, q26, q55, q4, q26, q53, q54], q0),
  ([q32, q26, q8, q26, q53, q54], q0),
  ([q40, q34, q52, q4, q34, q53, q54], q0),
  ([q40, q34, q55, q4, q34, q53, q54], q0),
  ([q40, q34, q8, q34, q53, q54], q0),
  ([q48, q42, q52, q4, q42, q53, q54], q0),
  ([q48, q42, q55, q4, q42, q53, q54], q0),
  ([q48, q42, q8, q42, q53, q54], q0),
  ([q56, q50, q52, q4, q50, q53, q54], q0),
  ([q56, q50, q55, q4, q50, q53, q54], q0),
  ([q56, q50, q8, q50, q53, q54], q0),
  ([q57, q58, q52, q4, q58, q53, q54], q0),
  ([q57, q52, q4, q59, q54], q0)]
theorem lawRan : lawRun tTopTable56 20000 200 3 lawT lawBad = true := by kernel_rfl
end Go.Proofs.YtenebabkanehpaaGreatDoor.LawTopTable
