/- The law F64Whole in numbers alone. No condition. -/
import Derived.Test.YtnodelimomljbaaRunF64Whole
import Derived.Test.YtnodelimomljbaaPlFltI
import Derived.Test.YtnodelimomljbaaOp64
namespace Go.Proofs.Ytnodelimomljbaa.PlainF64Whole
open Go Go.Sx Go.Sx.Flt Go.Proofs.Ytnodelimomljbaa.RunF64Whole Go.Proofs.Ytnodelimomljbaa.Op64
set_option linter.unusedSimpArgs false
set_option linter.unusedVariables false
theorem plain (u : Nat → Int) (h : KindOk u 0 [some .i64]) : Law ⟨u, fnF⟩ lawR := by
  have hu : -9223372036854775808 ≤ u 0 ∧ u 0 ≤ 9223372036854775807 := of_kind h.1
  have hx := w64_in (u 0)
  have hm := mg64 (u 0)
  simp only [lawR, Law, chain, E.prop, E.den, Bi.den, Un.den, and_true, w64_eq, b2i_ne, beq_iff_eq, decide_eq_true_eq, Bool.or_eq_true]
  have oo : fordI .f64 (W64 (u 0)) (W64 (u 0)) = if 9218868437227405312 < u 0 % 9223372036854775808 then 3 else 0 := by
    rw [ford64 hu hu]; by_cases hn : 9218868437227405312 < u 0 % 9223372036854775808 <;> simp [hn]
  by_cases hn : 9218868437227405312 < u 0 % 9223372036854775808
  · have fn : ∀ w, fwholeI w (W64 (u 0)) = -1 := fun w => fwhole_nan hx (by rw [hm]; exact hn)
    have fl : ∀ w, fwholeI w (W64 9221120237041090560) = -1 := fun w => by cases w <;> decide
    rw [if_pos hn] at oo
    simp [fn, fl, oo, b2i]
  · have hk : mg .f64 (W64 (u 0)) ≤ kI .f64 := by rw [hm, kI64]; omega
    rw [if_neg hn] at oo
    have fw := fun w => (fwhole_word (way := w) hx hk).1
    have rr := fun w => (fwhole_word (way := w) hx hk).2.1
    have again := fun w1 w2 => rg_again hx hk w1 w2
    have gd := fun w => (sg_add (x := W64 (u 0)) (rr w)).1
    have wb : ∀ m : Int, 0 ≤ m ∧ m ≤ topF .f64 → W64 (IntKind.i64.wrap m) = m := fun m g => by
      have t : topF .f64 = 18446744073709551615 := rfl
      rw [i64_of g]; rw [t] at g; unfold W64; split <;> omega
    have bk : ∀ w, W64 (IntKind.i64.wrap (sg (W64 (u 0)) + (rgW w (W64 (u 0)) : Int))) = sg (W64 (u 0)) + (rgW w (W64 (u 0)) : Int) := fun w => wb _ (gd w)
    have nn : ∀ w, ¬ sg (W64 (u 0)) + (rgW w (W64 (u 0)) : Int) = -1 := fun w => by have := (gd w).1; omega
    have le : fordI .f64 (sg (W64 (u 0)) + (rgW .down (W64 (u 0)) : Int)) (W64 (u 0)) ≤ 1 := by
      have := rg_down hx hk
      rw [ford_eq (gd .down) hx, if_neg (by rw [(sg_add (x := W64 (u 0)) (rr .down)).2.1, kI64]; have := rr .down; rw [kI64] at hk; omega)]
      by_cases h1 : ky .f64 (sg (W64 (u 0)) + (rgW .down (W64 (u 0)) : Int)) = ky .f64 (W64 (u 0))
      · rw [if_pos h1]; decide
      · rw [if_neg h1, if_pos (by omega)]; decide
    have ge : fordI .f64 (sg (W64 (u 0)) + (rgW .up (W64 (u 0)) : Int)) (W64 (u 0)) = 2 ∨ fordI .f64 (sg (W64 (u 0)) + (rgW .up (W64 (u 0)) : Int)) (W64 (u 0)) = 0 := by
      have := rg_up hx hk
      rw [ford_eq (gd .up) hx, if_neg (by rw [(sg_add (x := W64 (u 0)) (rr .up)).2.1, kI64]; have := rr .up; rw [kI64] at hk; omega)]
      by_cases h1 : ky .f64 (sg (W64 (u 0)) + (rgW .up (W64 (u 0)) : Int)) = ky .f64 (W64 (u 0))
      · rw [if_pos h1]; exact .inr rfl
      · rw [if_neg h1, if_neg (by omega)]; exact .inl rfl
    have c0 := rg_one (x := W64 (u 0)) .zero
    have c1 := rg_one (x := W64 (u 0)) .even
    have ge' : ¬ (¬ fordI .f64 (sg (W64 (u 0)) + (rgW .up (W64 (u 0)) : Int)) (W64 (u 0)) = 2 ∧ ¬ fordI .f64 (sg (W64 (u 0)) + (rgW .up (W64 (u 0)) : Int)) (W64 (u 0)) = 0) := by omega
    generalize W64 (u 0) = X at *
    rcases c0 with c0 | c0 <;> rcases c1 with c1 | c1 <;> rcases ge with ge | ge <;> simp [fw, bk, nn, again, oo, le, ge, c0, c1, b2i]
end Go.Proofs.Ytnodelimomljbaa.PlainF64Whole
