/- The law F64Roots in numbers alone. No condition. -/
import Derived.Test.YtnodelimomljbaaRunF64Roots
import Derived.Test.YtnodelimomljbaaPlFltM
import Derived.Test.YtnodelimomljbaaOp64
namespace Go.Proofs.Ytnodelimomljbaa.PlainF64Roots
open Go Go.Sx Go.Sx.Flt Go.Proofs.Ytnodelimomljbaa.RunF64Roots Go.Proofs.Ytnodelimomljbaa.Op64
set_option linter.unusedSimpArgs false
set_option linter.unusedVariables false
theorem plain (u : Nat → Int) (h : KindOk u 0 [some .i64]) : Law ⟨u, fnF⟩ lawR := by
  have hu : -9223372036854775808 ≤ u 0 ∧ u 0 ≤ 9223372036854775807 := of_kind h.1
  have hx := w64_in (u 0)
  have hm := mg64 (u 0)
  simp only [lawR, Law, chain, E.prop, E.den, Bi.den, Un.den, and_true, w64_eq, b2i_ne, beq_iff_eq, decide_eq_true_eq, Bool.or_eq_true]
  have az := andNot_sign (u 0)
  rw [az]
  have oo : fordI .f64 (W64 (u 0)) (W64 (u 0)) = if 9218868437227405312 < u 0 % 9223372036854775808 then 3 else 0 := by
    rw [ford64 hu hu]; by_cases hn : 9218868437227405312 < u 0 % 9223372036854775808 <;> simp [hn]
  have oz : fordI .f64 (W64 (u 0)) 0 = if 9218868437227405312 < u 0 % 9223372036854775808 then 3 else if u 0 % 9223372036854775808 = 0 then 0 else if u 0 < 0 then 1 else 2 := by
    have := ford64 hu (y := 0) (by omega)
    rw [show W64 0 = 0 by decide] at this
    rw [this]
    by_cases hn : 9218868437227405312 < u 0 % 9223372036854775808
    · simp [hn]
    · by_cases h0 : u 0 % 9223372036854775808 = 0
      · by_cases hneg : u 0 < 0
        · have : u 0 = -9223372036854775808 := by omega
          rw [this]; decide
        · have : u 0 = 0 := by omega
          rw [this]; decide
      · have e0 : (if (0 : Int) < 0 then -9223372036854775808 - 0 else 0) = (0 : Int) := if_neg (by decide)
        rw [e0, if_neg (by omega), if_neg hn, if_neg h0]
        by_cases hneg : u 0 < 0
        · have hc : (if u 0 < 0 then -9223372036854775808 - u 0 else u 0) = -9223372036854775808 - u 0 := if_pos hneg
          rw [hc, if_neg (by omega), if_pos (by omega), if_pos hneg]
        · have hc : (if u 0 < 0 then -9223372036854775808 - u 0 else u 0) = u 0 := if_neg hneg
          rw [hc, if_neg (by omega), if_neg (by omega)]
  by_cases hn : 9218868437227405312 < u 0 % 9223372036854775808
  · have fn : fsqrtI (W64 (u 0)) = -1 := fsqrt_nan hx (by rw [hm]; exact hn)
    rw [if_pos hn] at oo oz
    simp [fn, oo, oz, b2i]
  · have hk : mg .f64 (W64 (u 0)) ≤ kI .f64 := by rw [hm, kI64]; omega
    rw [if_neg hn] at oo oz
    by_cases h0 : u 0 % 9223372036854775808 = 0
    · rw [if_pos h0] at oz
      have fz : fsqrtI (W64 (u 0)) = W64 (u 0) := fsqrt_zero hx (by rw [hm]; exact h0)
      have nn : ¬ W64 (u 0) = -1 := by omega
      simp [fz, oo, oz, h0, nn, i64_back hu, b2i]
    · rw [if_neg h0] at oz
      by_cases hneg : u 0 < 0
      · rw [if_pos hneg] at oz
        have fn : fsqrtI (W64 (u 0)) = -1 := fsqrt_neg hx hk ((big64 hu).2 hneg) (by rw [hm]; exact h0)
        simp [fn, oo, oz, b2i]
      · rw [if_neg hneg] at oz
        have wx : W64 (u 0) = u 0 := by unfold W64; omega
        by_cases hi : u 0 = 9218868437227405312
        · have fi : fsqrtI (W64 (u 0)) = 9218868437227405312 := by rw [wx, hi]; exact fsqrt_inf
          rw [hi] at fi oo oz h0
          have w2 : IntKind.i64.wrap 9218868437227405312 = 9218868437227405312 := by decide
          simp [fi, oo, oz, h0, hi, w2, b2i]
        · obtain ⟨R, hR, r1, r2, lo, hiR⟩ := sqrt_word (x := W64 (u 0)) (by omega) (by omega)
          have keep : ∀ m : Int, 0 ≤ m → m ≤ 9218868437227405312 → IntKind.i64.wrap m = m := fun m a b => by
            rw [i64_of (by simp only [topF]; omega), if_pos (by omega)]
          have keepW : ∀ m : Int, 0 ≤ m → m ≤ 9218868437227405312 → W64 m = m := fun m a b => by unfold W64; omega
          have e1 : (R : Int) + -1 = ((R - 1 : Nat) : Int) := by omega
          have e2 : (R : Int) + 1 = ((R + 1 : Nat) : Int) := by omega
          have m1 := mul_sq (q := R - 1) (by omega)
          have m2 := mul_sq (q := R + 1) (by omega)
          rw [sq_rung] at m1 m2
          have l1 := lo (R - 1) (by omega)
          have l2 := hiR (R + 1) (by omega) (by omega)
          have b1 := rung_le Ieee.double (val Ieee.double (R - 1) * val Ieee.double (R - 1)) (-2148)
          have b2 := rung_le Ieee.double (val Ieee.double (R + 1) * val Ieee.double (R + 1)) (-2148)
          rw [dIR] at b1 b2
          generalize rungOf Ieee.double (val Ieee.double (R - 1) * val Ieee.double (R - 1)) (-2148) = L at *
          generalize rungOf Ieee.double (val Ieee.double (R + 1) * val Ieee.double (R + 1)) (-2148) = H at *
          have nR : ¬ (R : Int) = -1 := by omega
          have nL : ¬ (L : Int) = -1 := by omega
          have nH : ¬ (H : Int) = -1 := by omega
          have kR := keep (R : Int) (by omega) (by omega)
          have ka := keep ((R - 1 : Nat) : Int) (by omega) (by omega)
          have kb := keep ((R + 1 : Nat) : Int) (by omega) (by omega)
          have kL := keep (L : Int) (by omega) (by omega)
          have kH := keep (H : Int) (by omega) (by omega)
          have wa := keepW ((R - 1 : Nat) : Int) (by omega) (by omega)
          have wb := keepW ((R + 1 : Nat) : Int) (by omega) (by omega)
          have wL := keepW (L : Int) (by omega) (by omega)
          have wH := keepW (H : Int) (by omega) (by omega)
          have fo : ∀ a : Nat, (a : Int) ≤ 9218868437227405312 → fordI .f64 (a : Int) (u 0) = if (a : Int) = u 0 then 0 else if (a : Int) < u 0 then 1 else 2 := fun a ha => by
            have := ford64 (x := (a : Int)) (y := u 0) (by omega) hu
            rw [keepW _ (by omega) ha, wx] at this
            have ha' : (if (a : Int) < 0 then -9223372036854775808 - (a : Int) else (a : Int)) = a := if_neg (by omega)
            have hc : (if u 0 < 0 then -9223372036854775808 - u 0 else u 0) = u 0 := if_neg hneg
            rw [ha', hc, if_neg (by omega)] at this
            exact this
          have o1 : fordI .f64 (L : Int) (u 0) ≤ 1 := by
            rw [fo L (by omega)]
            split
            · decide
            · rw [if_pos (by omega)]; decide
          have o2 : fordI .f64 (H : Int) (u 0) = 2 ∨ fordI .f64 (H : Int) (u 0) = 0 := by
            rw [fo H (by omega)]
            by_cases hh : (H : Int) = u 0
            · rw [if_pos hh]; exact .inr rfl
            · rw [if_neg hh, if_neg (by omega)]; exact .inl rfl
          rw [wx] at hR oo oz ⊢
          simp only [hR, nR, if_false, kR, e1, e2, ka, kb, wa, wb, m1, m2, nL, nH, kL, kH, wL, wH, oo, oz, h0, hi]
          rcases o2 with o2 | o2 <;> simp [o1, o2, b2i]
end Go.Proofs.Ytnodelimomljbaa.PlainF64Roots
