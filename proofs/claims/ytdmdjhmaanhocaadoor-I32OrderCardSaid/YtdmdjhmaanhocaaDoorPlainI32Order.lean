/- The law Order: in each of the five cases the code's one way answers true. No condition. -/
import Derived.Test.YtdmdjhmaanhocaaDoorRunI32OrderA
import Derived.Test.YtdmdjhmaanhocaaDoorRunI32OrderB
import Derived.Test.YtdmdjhmaanhocaaDoorRunI32OrderC
import Derived.Test.YtdmdjhmaanhocaaDoorRunI32OrderD
import Derived.Test.YtdmdjhmaanhocaaDoorRunI32OrderE
import Derived.Test.YtdmdjhmaanhocaaDoorCon
import Derived.Test.YtdmdjhmaanhocaaDoorPlSame
namespace Go.Proofs.YtdmdjhmaanhocaaDoor.PlainI32Order
open Go Go.Sx Go.Sx.Door Go.Proofs.YtdmdjhmaanhocaaDoor.RunI32Order Go.Proofs.YtdmdjhmaanhocaaDoor.Con

theorem one (u : Nat → Int) (pc : List E) : Law ⟨u, fnT⟩ [(pc, .bool (.lit 1))] := by
  have key : ∀ (l : List E) (p : Prop), p → chain ⟨u, fnT⟩ p l := by
    intro l
    induction l with
    | nil => exact fun _ h => h
    | cons a r ih => exact fun p h => ih _ fun _ => h
  exact ⟨key pc _ (by simp [E.prop, E.den]), trivial⟩
theorem pcs {ρ : Env} : ∀ {l : List E}, (∀ e ∈ l, e.prop ρ) → pcOk ρ l := fun h e he => (E.prop_iff _ _).1 (h e he)
set_option linter.unusedSimpArgs false
set_option linter.unusedVariables false
variable {w : World} (hg : TabsOk w tab)
include hg
theorem law (x : Nat → Int) (hv : KindOk x 0 [some .i64, some .i64]) : Calls Tryd.prog 19 (kindVals x 0 [some .i64, some .i64]).toArray w fun e w' => e = .returned (.bool true) ∧ RowKit.Grown w w' := by
  have run : ∀ pre : List E, allUnder 2 pre = true → (∃ h : runOf Tryd.prog (specOracle all) (loopOracle lspecs) (bodies fns) tab 4000 19 [some .i64, some .i64] pre = some [(pre, .bool (.lit 1))], True) → pcOk ⟨x, fnT⟩ pre → Calls Tryd.prog 19 (kindVals x 0 [some .i64, some .i64]).toArray w fun e w' => e = .returned (.bool true) ∧ RowKit.Grown w w' := fun pre hu ⟨h, _⟩ hp =>
    law_calls_if fnT (all_ok hg) (loops_ok hg) fnsKnown hg h hu x hv hp fun u _ _ => one u pre
  have e0 := u32_wrap (x 0)
  have e1 := u32_wrap (x 1)
  have f0 := i32_wrap (x 0)
  have f1 := i32_wrap (x 1)
  have cs : (IntKind.i32.wrap (x 0) < IntKind.i32.wrap (x 1) ∧ IntKind.u32.wrap (x 0) < IntKind.u32.wrap (x 1)) ∨ (IntKind.i32.wrap (x 0) < IntKind.i32.wrap (x 1) ∧ IntKind.u32.wrap (x 1) < IntKind.u32.wrap (x 0)) ∨ IntKind.u32.wrap (x 0) = IntKind.u32.wrap (x 1) ∨ (IntKind.i32.wrap (x 1) < IntKind.i32.wrap (x 0) ∧ IntKind.u32.wrap (x 0) < IntKind.u32.wrap (x 1)) ∨ (IntKind.i32.wrap (x 1) < IntKind.i32.wrap (x 0) ∧ IntKind.u32.wrap (x 1) < IntKind.u32.wrap (x 0)) := by omega
  rcases cs with ⟨a, b⟩ | ⟨a, b⟩ | a | ⟨a, b⟩ | ⟨a, b⟩
  · refine run caseA rfl ⟨ranA, trivial⟩ (pcs fun e he => ?_)
    simp only [caseA, List.mem_cons, List.not_mem_nil, or_false] at he
    rcases he with rfl | rfl | rfl | rfl | rfl <;> simp only [bi, no, v, un, Sx.Door.u64, Sx.Door.u32, Sx.Door.i32, E.prop, E.den, Un.den] <;> omega
  · refine run caseB rfl ⟨ranB, trivial⟩ (pcs fun e he => ?_)
    simp only [caseB, List.mem_cons, List.not_mem_nil, or_false] at he
    rcases he with rfl | rfl | rfl | rfl | rfl <;> simp only [bi, no, v, un, Sx.Door.u64, Sx.Door.u32, Sx.Door.i32, E.prop, E.den, Un.den] <;> omega
  · refine run caseC rfl ⟨ranC, trivial⟩ (pcs fun e he => ?_)
    simp only [caseC, List.mem_cons, List.not_mem_nil, or_false] at he
    rcases he with rfl | rfl | rfl | rfl | rfl <;> simp only [bi, no, v, un, Sx.Door.u64, Sx.Door.u32, Sx.Door.i32, E.prop, E.den, Un.den] <;> omega
  · refine run caseD rfl ⟨ranD, trivial⟩ (pcs fun e he => ?_)
    simp only [caseD, List.mem_cons, List.not_mem_nil, or_false] at he
    rcases he with rfl | rfl | rfl | rfl | rfl <;> simp only [bi, no, v, un, Sx.Door.u64, Sx.Door.u32, Sx.Door.i32, E.prop, E.den, Un.den] <;> omega
  · refine run caseE rfl ⟨ranE, trivial⟩ (pcs fun e he => ?_)
    simp only [caseE, List.mem_cons, List.not_mem_nil, or_false] at he
    rcases he with rfl | rfl | rfl | rfl | rfl <;> simp only [bi, no, v, un, Sx.Door.u64, Sx.Door.u32, Sx.Door.i32, E.prop, E.den, Un.den] <;> omega
end Go.Proofs.YtdmdjhmaanhocaaDoor.PlainI32Order
