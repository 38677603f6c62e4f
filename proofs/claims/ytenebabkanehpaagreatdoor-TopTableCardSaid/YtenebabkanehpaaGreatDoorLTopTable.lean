/- The law TopTable: the ways that are not plainly true are none; the walk. No condition. -/
import Derived.Test.YtenebabkanehpaaGreatDoorSTopTable
import Derived.Test.YtenebabkanehpaaGreatDoorATopTable
namespace Go.Proofs.YtenebabkanehpaaGreatDoor.topTable
open Go Go.Sx Go.Gx Go.Proofs.YtenebabkanehpaaGreatDoor.LawTopTable
set_option linter.unusedSimpArgs false
theorem has_of_wf {a : Int} (h : (Lit.int .i64 a).wf = true) : Iv.has (some (-9223372036854775808), some 9223372036854775807) a := by
  simp [Lit.wf, IntKind.min, IntKind.max, IntKind.signed, IntKind.bits] at h
  exact ⟨fun l hl => by cases hl; exact h.1, fun l hl => by cases hl; exact h.2⟩
theorem plain (ρ : Env) : ∀ p ∈ lawBad, pcOk ρ p.1 → p.2.den ρ ≠ 0 := by
  intro p hp h
  have h' : ∀ e ∈ p.1, e.prop ρ := fun e he => (E.prop_iff ρ e).2 (h e he)
  rw [← E.prop_iff]
  simp only [lawBad, List.mem_cons, List.not_mem_nil, or_false] at hp
  rcases hp with rfl | rfl | rfl | rfl | rfl | rfl | rfl | rfl | rfl | rfl | rfl | rfl | rfl | rfl | rfl | rfl | rfl | rfl | rfl | rfl | rfl | rfl | rfl | rfl | rfl | rfl | rfl | rfl | rfl | rfl | rfl | rfl | rfl | rfl | rfl | rfl | rfl | rfl | rfl | rfl | rfl | rfl | rfl | rfl | rfl | rfl | rfl | rfl | rfl | rfl | rfl | rfl | rfl | rfl | rfl | rfl | rfl | rfl | rfl | rfl | rfl | rfl | rfl | rfl | rfl | rfl | rfl | rfl | rfl | rfl | rfl | rfl | rfl | rfl | rfl | rfl | rfl | rfl | rfl | rfl | rfl | rfl | rfl | rfl | rfl | rfl | rfl | rfl | rfl | rfl | rfl | rfl | rfl | rfl | rfl | rfl | rfl | rfl
  all_goals (simp [q0, q1, q2, q3, q4, q5, q6, q7, q8, q9, q10, q11, q12, q13, q14, q15, q16, q17, q18, q19, q20, q21, q22, q23, q24, q25, q26, q27, q28, q29, q30, q31, q32, q33, q34, q35, q36, q37, q38, q39, q40, q41, q42, q43, q44, q45, q46, q47, q48, q49, q50, q51, q52, q53, q54, q55, q56, q57, q58, q59, l, E.prop, E.den, Un.den, Bi.den, b2i, IntKind.wrap, IntKind.bits, IntKind.signed] at h' ⊢; try omega)
theorem walk (a0 : Int) (a1 : Int) (w0 : (Lit.int .i64 a0).wf = true) (w1 : (Lit.int .i64 a1).wf = true) (w : World) : Calls Tryz.prog 3 #[.int .i64 a0, .int .i64 a1] w fun e w' => e = .returned (.bool true) ∧ Ext w w' := by
  refine law_ok tTopTable56_ok lawRan Tryz.call3 rfl (fun i => match i with | 0 => a0 | 1 => a1 | _ => 0) [.int .i64 a0, .int .i64 a1] (fun ρ h => ?_) (fun i iv hi => ?_) (fun ρ h e he => by cases he) (fun ρ h => plain ρ) w
  · have h0 := h 0 (by decide); have h1 := h 1 (by decide)
    simp [lawT, V.denL, V.den, E.den, h0, h1, b2i_bne]
  · cases i with
    | zero => simp [lawT] at hi; subst hi; exact has_of_wf w0
    | succ i =>
    cases i with
    | zero => simp [lawT] at hi; subst hi; exact has_of_wf w1
    | succ i =>
    simp [lawT] at hi
end Go.Proofs.YtenebabkanehpaaGreatDoor.topTable
