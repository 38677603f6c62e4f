/- The law TopHost: the ways that are not plainly true are none; the walk. No condition. -/
import Derived.Test.YtenebabkanehpaaGreatDoorSTopHost
import Derived.Test.YtenebabkanehpaaGreatDoorATopHost
namespace Go.Proofs.YtenebabkanehpaaGreatDoor.topHost
open Go Go.Sx Go.Gx Go.Proofs.YtenebabkanehpaaGreatDoor.LawTopHost
set_option linter.unusedSimpArgs false
theorem has_of_wf {a : Int} (h : (Lit.int .i64 a).wf = true) : Iv.has (some (-9223372036854775808), some 9223372036854775807) a := by
  simp [Lit.wf, IntKind.min, IntKind.max, IntKind.signed, IntKind.bits] at h
  exact ⟨fun l hl => by cases hl; exact h.1, fun l hl => by cases hl; exact h.2⟩
theorem plain (ρ : Env) : ∀ p ∈ lawBad, pcOk ρ p.1 → p.2.den ρ ≠ 0 := fun p hp => by cases hp
theorem walk (a0 : Int) (a1 b1 : Int) (a2 : Bool) (w0 : (Lit.int .i64 a0).wf = true) (w1 : (Lit.int .i64 a1).wf = true) (u1 : (Lit.int .i64 b1).wf = true) (w : World) : Calls Tryz.prog 5 #[.int .i64 a0, .agg #[.int .i64 a1, .int .i64 b1], .bool a2] w fun e w' => e = .returned (.bool true) ∧ Ext w w' := by
  refine law_ok tTopHost14_ok lawRan Tryz.call5 rfl (fun i => match i with | 0 => a0 | 1 => a1 | 2 => b1 | 3 => (b2i a2) | _ => 0) [.int .i64 a0, .agg #[.int .i64 a1, .int .i64 b1], .bool a2] (fun ρ h => ?_) (fun i iv hi => ?_) (fun ρ h e he => by cases he) (fun ρ h => plain ρ) w
  · have h0 := h 0 (by decide); have h1 := h 1 (by decide); have h2 := h 2 (by decide); have h3 := h 3 (by decide)
    simp [lawT, V.denL, V.den, E.den, h0, h1, h2, h3, b2i_bne]
  · cases i with
    | zero => simp [lawT] at hi; subst hi; exact has_of_wf w0
    | succ i =>
    cases i with
    | zero => simp [lawT] at hi; subst hi; exact has_of_wf w1
    | succ i =>
    cases i with
    | zero => simp [lawT] at hi; subst hi; exact has_of_wf u1
    | succ i =>
    cases i with
    | zero => simp [lawT] at hi; subst hi; exact has_b2i a2
    | succ i =>
    simp [lawT] at hi
end Go.Proofs.YtenebabkanehpaaGreatDoor.topHost
