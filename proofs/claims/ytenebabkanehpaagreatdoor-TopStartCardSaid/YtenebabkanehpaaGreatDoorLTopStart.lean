/- The law TopStart: the ways that are not plainly true are none; the walk. No condition. -/
import Derived.Test.YtenebabkanehpaaGreatDoorSTopStart
import Derived.Test.YtenebabkanehpaaGreatDoorATopStart
namespace Go.Proofs.YtenebabkanehpaaGreatDoor.topStart
open Go Go.Sx Go.Gx Go.Proofs.YtenebabkanehpaaGreatDoor.LawTopStart
set_option linter.unusedSimpArgs false
theorem has_of_wf {a : Int} (h : (Lit.int .i64 a).wf = true) : Iv.has (some (-9223372036854775808), some 9223372036854775807) a := by
  simp [Lit.wf, IntKind.min, IntKind.max, IntKind.signed, IntKind.bits] at h
  exact ⟨fun l hl => by cases hl; exact h.1, fun l hl => by cases hl; exact h.2⟩
theorem plain (ρ : Env) : ∀ p ∈ lawBad, pcOk ρ p.1 → p.2.den ρ ≠ 0 := fun p hp => by cases hp
theorem walk (a0 : Int) (a1 : Bool) (w0 : (Lit.int .i64 a0).wf = true) (w : World) : Calls Tryz.prog 6 #[.int .i64 a0, .bool a1] w fun e w' => e = .returned (.bool true) ∧ Ext w w' := by
  refine law_ok tTopStart28_ok lawRan Tryz.call6 rfl (fun i => match i with | 0 => a0 | 1 => (b2i a1) | _ => 0) [.int .i64 a0, .bool a1] (fun ρ h => ?_) (fun i iv hi => ?_) (fun ρ h e he => by cases he) (fun ρ h => plain ρ) w
  · have h0 := h 0 (by decide); have h1 := h 1 (by decide)
    simp [lawT, V.denL, V.den, E.den, h0, h1, b2i_bne]
  · cases i with
    | zero => simp [lawT] at hi; subst hi; exact has_of_wf w0
    | succ i =>
    cases i with
    | zero => simp [lawT] at hi; subst hi; exact has_b2i a1
    | succ i =>
    simp [lawT] at hi
end Go.Proofs.YtenebabkanehpaaGreatDoor.topStart
