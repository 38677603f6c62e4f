/- The law Order: in each of the six cases the code's one way answers true. No condition. -/
import Derived.Test.YtnodelimomljbaaRunF32OrderA
import Derived.Test.YtnodelimomljbaaRunF32OrderB
import Derived.Test.YtnodelimomljbaaRunF32OrderC
import Derived.Test.YtnodelimomljbaaRunF32OrderD
import Derived.Test.YtnodelimomljbaaRunF32OrderE
import Derived.Test.YtnodelimomljbaaRunF32OrderF
import Derived.Test.YtnodelimomljbaaOp32
import Derived.Test.YtnodelimomljbaaPlFltJ
namespace Go.Proofs.Ytnodelimomljbaa.PlainF32Order
open Go Go.Sx Go.Sx.Flt Go.Proofs.Ytnodelimomljbaa.RunF32Order Go.Proofs.Ytnodelimomljbaa.Op32
set_option linter.unusedSimpArgs false
set_option linter.unusedVariables false
theorem one (u : Nat → Int) (pc : List E) : Law ⟨u, fnF⟩ [(pc, .bool (.lit 1))] := by
  have key : ∀ (l : List E) (p : Prop), p → chain ⟨u, fnF⟩ p l := by
    intro l
    induction l with
    | nil => exact fun _ h => h
    | cons a r ih => exact fun p h => ih _ fun _ => h
  exact ⟨key pc _ (by simp [E.prop, E.den]), trivial⟩
theorem pcs {ρ : Env} : ∀ {l : List E}, (∀ e ∈ l, e.prop ρ) → pcOk ρ l := fun h e he => (E.prop_iff _ _).1 (h e he)
theorem o_ok (w : World) : OracleOk Try.prog ⟨w, fnF⟩ (orcs (xOracle xts) (specOracle [aw32])) := orcs_ok (x_ok w) (specOracle_ok fun sp h => by
  simp only [List.mem_cons, List.not_mem_nil, or_false] at h
  rcases h with rfl
  exact aw_ok w)
theorem law (w : World) (x : Nat → Int) (hv : KindOk x 0 [some .i64, some .i64]) : Calls Try.prog 21 (kindVals x 0 [some .i64, some .i64]).toArray w fun e w' => e = .returned (.bool true) ∧ RowKit.Grown w w' := by
  have run : ∀ pre : List E, allUnder 2 pre = true → (∃ h : runOf Try.prog (orcs (xOracle xts) (specOracle [aw32])) noLoops (bodies fns) [] 4000 21 [some .i64, some .i64] pre = some [(pre, .bool (.lit 1))], True) → pcOk ⟨x, fnF⟩ pre → Calls Try.prog 21 (kindVals x 0 [some .i64, some .i64]).toArray w fun e w' => e = .returned (.bool true) ∧ RowKit.Grown w w' := fun pre hu ⟨h, _⟩ hp =>
    law_calls_if fnF (o_ok w) (noLoops_ok _ _ _) fnsKnown (noTabs w) h hu x hv hp fun u _ _ => one u pre
  have e := ford32 (x 0) (x 1)
  have e0 := ford32 (x 0) (x 0)
  have e1 := ford32 (x 1) (x 1)
  simp only [← w32_eq] at e e0 e1
  have cs : (fordI .f32 (IntKind.u32.wrap (x 0)) (IntKind.u32.wrap (x 1)) = 0 ∧ fordI .f32 (IntKind.u32.wrap (x 0)) (IntKind.u32.wrap (x 0)) = 0 ∧ fordI .f32 (IntKind.u32.wrap (x 1)) (IntKind.u32.wrap (x 1)) = 0) ∨ (fordI .f32 (IntKind.u32.wrap (x 0)) (IntKind.u32.wrap (x 1)) = 1 ∧ fordI .f32 (IntKind.u32.wrap (x 0)) (IntKind.u32.wrap (x 0)) = 0 ∧ fordI .f32 (IntKind.u32.wrap (x 1)) (IntKind.u32.wrap (x 1)) = 0) ∨ (fordI .f32 (IntKind.u32.wrap (x 0)) (IntKind.u32.wrap (x 1)) = 2 ∧ fordI .f32 (IntKind.u32.wrap (x 0)) (IntKind.u32.wrap (x 0)) = 0 ∧ fordI .f32 (IntKind.u32.wrap (x 1)) (IntKind.u32.wrap (x 1)) = 0) ∨ (fordI .f32 (IntKind.u32.wrap (x 0)) (IntKind.u32.wrap (x 1)) = 3 ∧ fordI .f32 (IntKind.u32.wrap (x 0)) (IntKind.u32.wrap (x 0)) = 3 ∧ fordI .f32 (IntKind.u32.wrap (x 1)) (IntKind.u32.wrap (x 1)) = 3) ∨ (fordI .f32 (IntKind.u32.wrap (x 0)) (IntKind.u32.wrap (x 1)) = 3 ∧ fordI .f32 (IntKind.u32.wrap (x 0)) (IntKind.u32.wrap (x 0)) = 3 ∧ fordI .f32 (IntKind.u32.wrap (x 1)) (IntKind.u32.wrap (x 1)) = 0) ∨ (fordI .f32 (IntKind.u32.wrap (x 0)) (IntKind.u32.wrap (x 1)) = 3 ∧ fordI .f32 (IntKind.u32.wrap (x 0)) (IntKind.u32.wrap (x 0)) = 0 ∧ fordI .f32 (IntKind.u32.wrap (x 1)) (IntKind.u32.wrap (x 1)) = 3) := by
    rw [e, e0, e1]
    by_cases na : 2139095040 < x 0 % 2147483648 <;> by_cases nb : 2139095040 < x 1 % 2147483648 <;> simp only [na, nb, or_true, true_or, or_self, or_false, false_or, if_true, if_false] <;> (repeat' split) <;> simp
  rcases cs with ⟨a, b, c⟩ | ⟨a, b, c⟩ | ⟨a, b, c⟩ | ⟨a, b, c⟩ | ⟨a, b, c⟩ | ⟨a, b, c⟩
  · refine run caseA rfl ⟨ranA, trivial⟩ (pcs fun e he => ?_)
    simp only [caseA, List.mem_cons, List.not_mem_nil, or_false] at he
    rcases he with rfl | rfl | rfl <;> simp only [bi, v, un, Flt.u64, Flt.u32, E.prop, E.den, Un.den, Bi.den] <;> assumption
  · refine run caseB rfl ⟨ranB, trivial⟩ (pcs fun e he => ?_)
    simp only [caseB, List.mem_cons, List.not_mem_nil, or_false] at he
    rcases he with rfl | rfl | rfl <;> simp only [bi, v, un, Flt.u64, Flt.u32, E.prop, E.den, Un.den, Bi.den] <;> assumption
  · refine run caseC rfl ⟨ranC, trivial⟩ (pcs fun e he => ?_)
    simp only [caseC, List.mem_cons, List.not_mem_nil, or_false] at he
    rcases he with rfl | rfl | rfl <;> simp only [bi, v, un, Flt.u64, Flt.u32, E.prop, E.den, Un.den, Bi.den] <;> assumption
  · refine run caseD rfl ⟨ranD, trivial⟩ (pcs fun e he => ?_)
    simp only [caseD, List.mem_cons, List.not_mem_nil, or_false] at he
    rcases he with rfl | rfl | rfl <;> simp only [bi, v, un, Flt.u64, Flt.u32, E.prop, E.den, Un.den, Bi.den] <;> assumption
  · refine run caseE rfl ⟨ranE, trivial⟩ (pcs fun e he => ?_)
    simp only [caseE, List.mem_cons, List.not_mem_nil, or_false] at he
    rcases he with rfl | rfl | rfl <;> simp only [bi, v, un, Flt.u64, Flt.u32, E.prop, E.den, Un.den, Bi.den] <;> assumption
  · refine run caseF rfl ⟨ranF, trivial⟩ (pcs fun e he => ?_)
    simp only [caseF, List.mem_cons, List.not_mem_nil, or_false] at he
    rcases he with rfl | rfl | rfl <;> simp only [bi, v, un, Flt.u64, Flt.u32, E.prop, E.den, Un.den, Bi.den] <;> assumption
end Go.Proofs.Ytnodelimomljbaa.PlainF32Order
