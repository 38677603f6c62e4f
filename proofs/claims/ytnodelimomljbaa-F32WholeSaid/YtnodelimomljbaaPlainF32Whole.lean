/- The law F32Whole in numbers alone. No condition. -/
import Derived.Test.YtnodelimomljbaaRunF32Whole
import Derived.Test.YtnodelimomljbaaPlFltL
import Derived.Test.YtnodelimomljbaaOpU
namespace Go.Proofs.Ytnodelimomljbaa.PlainF32Whole
open Go Go.Sx Go.Sx.Flt Go.Proofs.Ytnodelimomljbaa.RunF32Whole Go.Proofs.Ytnodelimomljbaa.OpU
set_option linter.unusedSimpArgs false
set_option linter.unusedVariables false
theorem plain (u : Nat → Int) (h : KindOk u 0 [some .i64]) : Law ⟨u, fnF⟩ lawR := by
  have hx := w32_in (u 0)
  have fd : ∀ w x, fconvI .f64 .f32 (fwholeI w (fconvI .f32 .f64 x)) = fwhole32 w x := fun _ _ => rfl
  simp only [lawR, q0, qn, qm, Law, chain, E.prop, E.den, Bi.den, Un.den, and_true, w32_eq, w32_w, b2i_ne, beq_iff_eq, decide_eq_true_eq, Bool.or_eq_true, fd]
  have wb : ∀ m : Int, 0 ≤ m ∧ m ≤ topF .f32 → W32 m = m := fun m g => by
    have t : topF .f32 = 4294967295 := rfl
    rw [t] at g; unfold W32; omega
  generalize W32 (u 0) = X at *
  have oo : fordI .f32 X X = if kI .f32 < mg .f32 X then 3 else 0 := by
    rw [ford_eq hx hx]; by_cases hn : kI .f32 < mg .f32 X <;> simp [hn]
  by_cases hn : kI .f32 < mg .f32 X
  · have fn := conv_bad hx hn
    have hl : W32 2143289344 = 2143289344 := by decide
    have fl : fconvI .f32 .f64 2143289344 = -1 := conv_bad (by decide) (by decide)
    rw [if_pos hn] at oo
    simp [fn, fl, hl, oo, b2i]
  · have hk : mg .f32 X ≤ kI .f32 := by omega
    rw [if_neg hn] at oo
    have cX := conv_num hx hk
    have wX := wb X hx
    have fw := fun w => (fwhole32_word (way := w) hx hk).1
    have rr := fun w => (fwhole32_word (way := w) hx hk).2.1
    have again := fun w1 w2 => rh_again hx hk w1 w2
    have gd := fun w => (sh_add (x := X) (rr w)).1
    have bk : ∀ w, W32 (sh X + (rgV w X : Int)) = sh X + (rgV w X : Int) := fun w => wb _ (gd w)
    have nn : ∀ w, ¬ fconvI .f32 .f64 (sh X + (rgV w X : Int)) = -1 := fun w => conv_num (gd w) (by
      rw [(sh_add (x := X) (rr w)).2.1, kI32]; have := rr w; omega)
    have le : fordI .f32 (sh X + (rgV .down X : Int)) X ≤ 1 := by
      have := rh_down hx hk
      rw [ford_eq (gd .down) hx, if_neg (by rw [(sh_add (x := X) (rr .down)).2.1, kI32]; have := rr .down; rw [kI32] at hk; omega)]
      by_cases h1 : ky .f32 (sh X + (rgV .down X : Int)) = ky .f32 X
      · rw [if_pos h1]; decide
      · rw [if_neg h1, if_pos (by omega)]; decide
    have ge : fordI .f32 (sh X + (rgV .up X : Int)) X = 2 ∨ fordI .f32 (sh X + (rgV .up X : Int)) X = 0 := by
      have := rh_up hx hk
      rw [ford_eq (gd .up) hx, if_neg (by rw [(sh_add (x := X) (rr .up)).2.1, kI32]; have := rr .up; rw [kI32] at hk; omega)]
      by_cases h1 : ky .f32 (sh X + (rgV .up X : Int)) = ky .f32 X
      · rw [if_pos h1]; exact .inr rfl
      · rw [if_neg h1, if_neg (by omega)]; exact .inl rfl
    have c0 := rh_one (x := X) .zero
    have c1 := rh_one (x := X) .even
    rcases c0 with c0 | c0 <;> rcases c1 with c1 | c1 <;> rcases ge with ge | ge <;> simp [fw, bk, nn, again, oo, le, ge, c0, c1, cX, wX, b2i]
end Go.Proofs.Ytnodelimomljbaa.PlainF32Whole
