/- The law F32Roots in numbers alone. No condition. -/
import Derived.Test.YtnodelimomljbaaRunF32Roots
import Derived.Test.YtnodelimomljbaaPlFltN
import Derived.Test.YtnodelimomljbaaOpT
namespace Go.Proofs.Ytnodelimomljbaa.PlainF32Roots
open Go Go.Sx Go.Sx.Flt Go.Proofs.Ytnodelimomljbaa.RunF32Roots Go.Proofs.Ytnodelimomljbaa.OpT
set_option linter.unusedSimpArgs false
set_option linter.unusedVariables false
theorem plain (u : Nat → Int) (h : KindOk u 0 [some .i64]) : Law ⟨u, fnF⟩ lawR := by
  have hx := w32_in (u 0)
  have hm := mg32 (u 0)
  have t : topF .f32 = 4294967295 := rfl
  have ha : bitI .andNot .i64 (W32 (u 0)) 2147483648 = u 0 % 2147483648 := by
    rw [andNot32 (by omega)]; unfold W32; omega
  have e : W32 (u 0) = u 0 % 4294967296 := rfl
  simp only [lawR, Law, chain, E.prop, E.den, Bi.den, Un.den, and_true, w32_eq, w32_w, ha, b2i_ne, beq_iff_eq, decide_eq_true_eq, Bool.or_eq_true]
  have oo : fordI .f32 (W32 (u 0)) (W32 (u 0)) = if 2139095040 < u 0 % 2147483648 then 3 else 0 := by
    rw [ford32]; by_cases hn : 2139095040 < u 0 % 2147483648 <;> simp [hn]
  have fz : ∀ a b : Nat, (a : Int) ≤ 2139095040 → (b : Int) ≤ 2139095040 → fordI .f32 (a : Int) (b : Int) = if (a : Int) = b then 0 else if (a : Int) < b then 1 else 2 := fun a b h1 h2 => by
    have := ford32 (a : Int) (b : Int)
    rw [show W32 (a : Int) = a by unfold W32; omega, show W32 (b : Int) = b by unfold W32; omega] at this
    rw [this, if_neg (by omega)]
    have ca : (if (2147483648 : Int) ≤ a then 2147483648 - (a : Int) else a) = a := if_neg (by omega)
    have cb : (if (2147483648 : Int) ≤ b then 2147483648 - (b : Int) else b) = b := if_neg (by omega)
    rw [ca, cb]
  by_cases hn : 2139095040 < u 0 % 2147483648
  · have fn : fconvI .f32 .f64 (W32 (u 0)) = -1 := (conv_nan .f32 .f64 (W32 (u 0))).1 (by
      have := read_nan Ieee.single (by decide) ((nan_nat (k := .f32) hx).2 (by rw [hm]; exact hn))
      show (Ieee.single.read _).isNaN = true
      rw [this]; rfl)
    rw [if_pos hn] at oo
    simp [fn, oo, b2i]
  · have hk : mg .f32 (W32 (u 0)) ≤ kI .f32 := by rw [hm, kI32]; omega
    rw [if_neg hn] at oo
    have nu : ¬ fconvI .f32 .f64 (W32 (u 0)) = -1 := by
      rw [conv_up hx hk]
      have := (upW_facts hx hk).1; omega
    by_cases h0 : u 0 % 2147483648 = 0
    · have hc : W32 (u 0) = 0 ∨ W32 (u 0) = 2147483648 := by omega
      rcases hc with hc | hc
      · have f1 : fconvI .f64 .f32 (fsqrtI (fconvI .f32 .f64 0)) = 0 := by decide
        have f2 : ¬ fsqrtI (fconvI .f32 .f64 0) = -1 := by decide
        have f3 : fordI .f32 0 0 = 0 := by decide
        rw [hc] at nu
        simp [hc, f1, f2, f3, nu, h0, b2i]
      · have f1 : fconvI .f64 .f32 (fsqrtI (fconvI .f32 .f64 2147483648)) = 2147483648 := by decide
        have f2 : ¬ fsqrtI (fconvI .f32 .f64 2147483648) = -1 := by decide
        have f3 : fordI .f32 2147483648 2147483648 = 0 := by decide
        have f4 : fordI .f32 2147483648 0 = 0 := by decide
        rw [hc] at nu
        simp [hc, f1, f2, f3, f4, nu, h0, b2i]
    · by_cases hneg : 2147483648 ≤ W32 (u 0)
      · obtain ⟨g1, g2, g3, g4, _⟩ := upW_facts hx hk
        have hp := (upR_lt (r := 0) (q := (mg .f32 (W32 (u 0))).toNat) (by rw [hm]; omega) (by rw [hm]; omega))
        have fn : fsqrtI (fconvI .f32 .f64 (W32 (u 0))) = -1 := by
          rw [conv_up hx hk]
          exact fsqrt_neg g1 g3 (g4.2 hneg) (by rw [g2]; omega)
        have oz : fordI .f32 (W32 (u 0)) 0 = 1 := by
          have := ford32 (u 0) 0
          rw [show W32 0 = 0 by decide] at this
          rw [this, if_neg (by omega)]
          have ca : (if (2147483648 : Int) ≤ W32 (u 0) then 2147483648 - W32 (u 0) else W32 (u 0)) = 2147483648 - W32 (u 0) := if_pos hneg
          rw [ca]
          have cb : (if (2147483648 : Int) ≤ 0 then 2147483648 - (0 : Int) else 0) = 0 := if_neg (by decide)
          rw [cb, if_neg (by omega), if_pos (by omega)]
        simp [fn, oo, oz, nu, b2i]
      · obtain ⟨X, hX⟩ : ∃ X : Nat, W32 (u 0) = X := ⟨(W32 (u 0)).toNat, by omega⟩
        have oz := fz X 0 (by omega) (by decide)
        rw [if_neg (by omega), if_neg (by omega)] at oz
        rw [hX] at oo nu ⊢
        by_cases hi : (X : Int) = 2139095040
        · rw [hi] at oo nu oz ⊢
          have f1 : fconvI .f64 .f32 (fsqrtI (fconvI .f32 .f64 2139095040)) = 2139095040 := by decide
          have f2 : ¬ fsqrtI (fconvI .f32 .f64 2139095040) = -1 := by decide
          have oz' : fordI .f32 2139095040 0 = 2 := oz
          simp [f1, f2, oo, oz', nu, h0, b2i]
        · obtain ⟨r, hr, ⟨R, hR⟩, r1, r2, lo, hh⟩ := sqrt32_pos (x := (X : Int)) (by omega) (by omega)
          have l1 := lo (r - 1) (by omega)
          have l2 := hh (r + 1) (by omega) (by omega)
          have m1 := mul_sq32 (q := r - 1) (by omega)
          have m2 := mul_sq32 (q := r + 1) (by omega)
          have b2 := rung_le Ieee.single (val Ieee.single (r + 1) * val Ieee.single (r + 1)) (-298)
          rw [sIR] at b2
          generalize rungOf Ieee.single (val Ieee.single (r - 1) * val Ieee.single (r - 1)) (-298) = L at *
          generalize rungOf Ieee.single (val Ieee.single (r + 1) * val Ieee.single (r + 1)) (-298) = H at *
          have e1 : (r : Int) + -1 = ((r - 1 : Nat) : Int) := by omega
          have e2 : (r : Int) + 1 = ((r + 1 : Nat) : Int) := by omega
          have wa : W32 ((r - 1 : Nat) : Int) = ((r - 1 : Nat) : Int) := by unfold W32; omega
          have wb : W32 ((r + 1 : Nat) : Int) = ((r + 1 : Nat) : Int) := by unfold W32; omega
          have wL : W32 (L : Int) = L := by unfold W32; omega
          have wH : W32 (H : Int) = H := by unfold W32; omega
          have nR : ¬ (R : Int) = -1 := by omega
          have nr : ¬ (r : Int) = -2 := by omega
          have nL : ¬ (L : Int) = -1 := by omega
          have nH : ¬ (H : Int) = -1 := by omega
          have o1 : fordI .f32 (L : Int) (X : Int) ≤ 1 := by
            rw [fz L X (by omega) (by omega)]
            split
            · decide
            · rw [if_pos (by omega)]; decide
          have o2 : fordI .f32 (H : Int) (X : Int) = 2 ∨ fordI .f32 (H : Int) (X : Int) = 0 := by
            rw [fz H X (by omega) (by omega)]
            by_cases hq : (H : Int) = X
            · rw [if_pos hq]; exact .inr rfl
            · rw [if_neg hq, if_neg (by omega)]; exact .inl rfl
          have oz' : fordI .f32 (X : Int) 0 = 2 := oz
          rw [hR] at hr
          simp only [hR, hr, nR, nr, nu, if_false, e1, e2, wa, wb, m1, m2, nL, nH, wL, wH, oo, oz', h0, hi]
          rcases o2 with o2 | o2 <;> simp [o1, o2, b2i]
end Go.Proofs.Ytnodelimomljbaa.PlainF32Roots
