/- The law TopFib: the ways that are not plainly true are none; the walk. No condition. -/
import Derived.Test.YtenebabkanehpaaGreatDoorSTopFib
import Derived.Test.YtenebabkanehpaaGreatDoorATopFib
namespace Go.Proofs.YtenebabkanehpaaGreatDoor.topFib
open Go Go.Sx Go.Gx Go.Proofs.YtenebabkanehpaaGreatDoor.LawTopFib
set_option linter.unusedSimpArgs false
theorem has_of_wf {a : Int} (h : (Lit.int .i64 a).wf = true) : Iv.has (some (-9223372036854775808), some 9223372036854775807) a := by
  simp [Lit.wf, IntKind.min, IntKind.max, IntKind.signed, IntKind.bits] at h
  exact ⟨fun l hl => by cases hl; exact h.1, fun l hl => by cases hl; exact h.2⟩
theorem plain (ρ : Env) : ∀ p ∈ lawBad, pcOk ρ p.1 → p.2.den ρ ≠ 0 := fun p hp => by cases hp
theorem walk (a0 : Int) (w0 : (Lit.int .i64 a0).wf = true) (w : World) : Calls Tryz.prog 8 #[.int .i64 a0] w fun e w' => e = .returned (.bool true) ∧ Ext w w' := by
  refine law_ok tTopFib32_ok lawRan Tryz.call8 rfl (fun i => match i with | 0 => a0 | _ => 0) [.int .i64 a0] (fun ρ h => ?_) (fun i iv hi => ?_) (fun ρ h e he => by cases he) (fun ρ h => plain ρ) w
  · have h0 := h 0 (by decide)
    simp [lawT, V.denL, V.den, E.den, h0, b2i_bne]
  · cases i with
    | zero => simp [lawT] at hi; subst hi; exact has_of_wf w0
    | succ i =>
    simp [lawT] at hi
end Go.Proofs.YtenebabkanehpaaGreatDoor.topFib
