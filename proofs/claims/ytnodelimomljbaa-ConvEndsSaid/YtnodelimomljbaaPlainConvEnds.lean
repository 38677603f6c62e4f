/- The law ConvEnds in numbers alone. No condition. -/
import Derived.Test.YtnodelimomljbaaRunConvEnds
import Derived.Test.YtnodelimomljbaaOpC
namespace Go.Proofs.Ytnodelimomljbaa.PlainConvEnds
open Go Go.Sx Go.Sx.Flt Go.Proofs.Ytnodelimomljbaa.RunConvEnds Go.Proofs.Ytnodelimomljbaa.OpC Go.Proofs.Ytnodelimomljbaa.PlainOpC
set_option linter.unusedSimpArgs false
set_option linter.unusedVariables false
/-- a finite word's whole number, its place given -/
theorem tr_down {n : Int} {q : Nat} (hq : 0 < q) (hs : W64 n < 9223372036854775808) (b : Nat) (hb : 0 < b) (hr : b * 4503599627370496 ≤ (W64 n).toNat ∧ (W64 n).toNat < (b + 1) * 4503599627370496) (hb2 : b + q = 1075) :
    fordI .f64 (W64 n) (W64 n) = 0 ∧ ftruncI .f64 (W64 n) = (((4503599627370496 + (W64 n).toNat % 4503599627370496) / 2 ^ q : Nat) : Int) := by
  have hx := w64_in n
  have hm : mg .f64 (W64 n) = W64 n := by unfold mg; rw [kM64, if_neg (by omega)]
  have hf : mg .f64 (W64 n) < kI .f64 := by rw [hm, kI64]; omega
  refine ⟨by rw [ford_eq hx hx, if_neg (by omega), if_pos rfl], ?_⟩
  rw [trunc_word hx hf, kM64, if_neg (by omega), hm]
  have hp : placeOf Ieee.double (W64 n).toNat = -(q : Int) := by unfold placeOf; rw [dLP, dBI, if_neg (by omega)]; omega
  rw [tz_down (by rw [hp]; omega), hp]
  have e : (- -(q : Int)).toNat = q := by omega
  rw [e]
  unfold magOf; rw [dBI, if_neg (by omega)]
theorem tr_up {n : Int} {q : Nat} (hs : W64 n < 9223372036854775808) (b : Nat) (hr : b * 4503599627370496 ≤ (W64 n).toNat ∧ (W64 n).toNat < (b + 1) * 4503599627370496) (hb2 : b = 1075 + q) (hq : q < 900) :
    fordI .f64 (W64 n) (W64 n) = 0 ∧ ftruncI .f64 (W64 n) = (((4503599627370496 + (W64 n).toNat % 4503599627370496) * 2 ^ q : Nat) : Int) := by
  have hx := w64_in n
  have hm : mg .f64 (W64 n) = W64 n := by unfold mg; rw [kM64, if_neg (by omega)]
  have hf : mg .f64 (W64 n) < kI .f64 := by rw [hm, kI64]; omega
  refine ⟨by rw [ford_eq hx hx, if_neg (by omega), if_pos rfl], ?_⟩
  rw [trunc_word hx hf, kM64, if_neg (by omega), hm]
  have hp : placeOf Ieee.double (W64 n).toNat = (q : Int) := by unfold placeOf; rw [dLP, dBI, if_neg (by omega)]; omega
  rw [(tz_up (by rw [hp]; omega)).1, hp]
  rw [Int.toNat_natCast]
  unfold magOf; rw [dBI, if_neg (by omega)]
theorem plain (u : Nat → Int) (h : KindOk u 0 [some .i64, some .i64]) : Law ⟨u, fnF⟩ lawR := by
  obtain ⟨d, hd⟩ : ∃ d, u 1 % 1024 = d := ⟨_, rfl⟩
  obtain ⟨w, hw⟩ : ∃ w, IntKind.u8.wrap (u 0) = w := ⟨_, rfl⟩
  have hd2 : 0 ≤ d ∧ d < 1024 := by omega
  have hw2 : 0 ≤ w ∧ w ≤ 255 := by rw [← hw]; exact of_kind (has_kind .u8 (u 0))
  simp only [lawR, Law, chain, E.prop, E.den, Bi.den, Un.den, and_true, w64_eq, w32_eq, b2i_ne, b2i_z, beq_eq_false_iff_ne, ne_eq, beq_iff_eq, decide_eq_true_eq, decide_eq_false_iff_not, Bool.or_eq_true, Bool.not_eq_true', hd, hw]
  have p21 : (2 : Nat) ^ 21 = 2097152 := by decide
  have p22 : (2 : Nat) ^ 22 = 4194304 := by decide
  have p10 : (2 : Nat) ^ 10 = 1024 := by decide
  have p11 : (2 : Nat) ^ 11 = 2048 := by decide
  have w1 : W64 (4746794007248502783 - d) = 4746794007248502783 - d := by unfold W64; omega
  have w2 : W64 (d + 4746794007248502784) = d + 4746794007248502784 := by unfold W64; omega
  have w3 : W64 (4890909195324358655 - d) = 4890909195324358655 - d := by unfold W64; omega
  have w4 : W64 (d + 4890909195324358656) = d + 4890909195324358656 := by unfold W64; omega
  obtain ⟨o1, t1⟩ := tr_down (n := 4746794007248502783 - d) (q := 22) (by decide) (by omega) 1053 (by decide) (by omega) rfl
  obtain ⟨o2, t2⟩ := tr_down (n := d + 4746794007248502784) (q := 21) (by decide) (by omega) 1054 (by decide) (by omega) rfl
  obtain ⟨o3, t3⟩ := tr_up (n := 4890909195324358655 - d) (q := 10) (by omega) 1085 (by omega) rfl (by decide)
  obtain ⟨o4, t4⟩ := tr_up (n := d + 4890909195324358656) (q := 11) (by omega) 1086 (by omega) rfl (by decide)
  rw [p22] at t1
  rw [p21] at t2
  rw [p10] at t3
  rw [p11] at t4
  have r1 : ftruncI .f64 (W64 (4746794007248502783 - d)) = 2147483647 := by rw [t1]; omega
  have r2 : 2147483648 ≤ ftruncI .f64 (W64 (d + 4746794007248502784)) := by rw [t2]; omega
  have r3 : 0 < ftruncI .f64 (W64 (4890909195324358655 - d)) ∧ ftruncI .f64 (W64 (4890909195324358655 - d)) < 9223372036854775808 := by rw [t3]; omega
  have r4 : 9223372036854775808 ≤ ftruncI .f64 (W64 (d + 4890909195324358656)) := by rw [t4]; omega
  have w5 : W64 (-4616189618054758401 - w) = 13830554455654793215 - w := by unfold W64; omega
  have x5 := w64_in (-4616189618054758401 - w)
  have m5 : mg .f64 (W64 (-4616189618054758401 - w)) = 4607182418800017407 - w := by unfold mg; rw [kM64, if_pos (by omega)]; omega
  have o5 : fordI .f64 (W64 (-4616189618054758401 - w)) (W64 (-4616189618054758401 - w)) = 0 := by rw [ford_eq x5 x5, if_neg (by rw [m5, kI64]; omega), if_pos rfl]
  have t5 : ftruncI .f64 (W64 (-4616189618054758401 - w)) = 0 := by
    rw [trunc_word x5 (by rw [m5, kI64]; omega), m5]
    have hp : placeOf Ieee.double (4607182418800017407 - w).toNat = -53 := by unfold placeOf; rw [dLP, dBI, if_neg (by omega)]; omega
    have hz : tz (4607182418800017407 - w).toNat = 0 := by
      rw [tz_down (by rw [hp]; decide), hp]
      have e : (- -53 : Int).toNat = 53 := by decide
      rw [e, show (2 : Nat) ^ 53 = 9007199254740992 by decide]
      unfold magOf; rw [dBI, if_neg (by omega)]; omega
    rw [hz]; simp
  have i3 : IntKind.i64.wrap (ftruncI .f64 (W64 (4890909195324358655 - d))) = ftruncI .f64 (W64 (4890909195324358655 - d)) := i64_id (by omega)
  generalize ftruncI .f64 (W64 (4890909195324358655 - d)) = T3 at *
  generalize ftruncI .f64 (W64 (d + 4890909195324358656)) = T4 at *
  generalize ftruncI .f64 (W64 (d + 4746794007248502784)) = T2 at *
  have c2 : ¬ T2 < -2147483648 := by omega
  have c2' : ¬ T2 < 2147483648 := by omega
  have c4 : ¬ T4 < -9223372036854775808 := by omega
  have c4' : ¬ T4 < 9223372036854775808 := by omega
  have c3 : ¬ T3 < -9223372036854775808 := by omega
  have c3' : T3 < 9223372036854775808 := by omega
  have c3'' : ¬ T3 ≤ 0 := by omega
  have e1 : W32 2147483647 = 2147483647 := by decide
  have e0 : W32 0 = 0 := by decide
  simp [o1, o2, o3, o4, o5, r1, t5, c2, c2', c3, c3', c3'', c4, c4', i3, r3, e1, e0, b2i]
end Go.Proofs.Ytnodelimomljbaa.PlainConvEnds
