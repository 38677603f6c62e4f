/- Whole parts of floats of 32 bits, through those of 64. No condition. -/
import Derived.Test.YtnodelimomljbaaPlFltK
import Derived.Test.YtnodelimomljbaaPlFltI
namespace Go.Sx
open Go Ieee

theorem upBit_scale (way : Toward) (s : Bool) (n d k : Nat) : upBit way s (n * 2 ^ k) (d + k) = upBit way s n d ∧ (n * 2 ^ k) / 2 ^ (d + k) = n / 2 ^ d := by
  have hk : 0 < 2 ^ k := Nat.two_pow_pos k
  have e : 2 ^ (d + k) = 2 ^ d * 2 ^ k := Nat.pow_add 2 d k
  have h0 : (n * 2 ^ k) / 2 ^ (d + k) = n / 2 ^ d := by rw [e, Nat.mul_div_mul_right _ _ hk]
  have hm : (n * 2 ^ k) % 2 ^ (d + k) = n % 2 ^ d * 2 ^ k := by rw [e, Nat.mul_mod_mul_right]
  refine ⟨?_, h0⟩
  have hz : (n % 2 ^ d * 2 ^ k != 0) = (n % 2 ^ d != 0) := by
    by_cases h : n % 2 ^ d = 0
    · rw [h]; simp
    · have : n % 2 ^ d * 2 ^ k ≠ 0 := Nat.mul_ne_zero h (by omega)
      rw [bne_iff_ne.2 this, bne_iff_ne.2 h]
  unfold upBit
  cases way with
  | zero => rfl
  | up => simp only [hm, hz]
  | down => simp only [hm, hz]
  | even =>
    simp only [hm, h0]
    simp only [e]
    have h1 : (2 ^ d * 2 ^ k < 2 * (n % 2 ^ d * 2 ^ k)) ↔ (2 ^ d < 2 * (n % 2 ^ d)) := by
      rw [← Nat.mul_assoc]; exact Nat.mul_lt_mul_right hk
    have h2 : (2 ^ d * 2 ^ k = 2 * (n % 2 ^ d * 2 ^ k)) ↔ (2 ^ d = 2 * (n % 2 ^ d)) := by
      rw [← Nat.mul_assoc]; exact Nat.mul_right_cancel_iff hk
    have h3 : (2 ^ d * 2 ^ k == 2 * (n % 2 ^ d * 2 ^ k)) = (2 ^ d == 2 * (n % 2 ^ d)) := by
      rw [Bool.eq_iff_iff, beq_iff_eq, beq_iff_eq]; exact h2
    rw [h3]
    simp only [h1]
/-- the whole part, of either format -/
theorem whole_down {r : Nat} (h : r < 2139095040) (way : Toward) (s : Bool) : rungOf Ieee.single (magOf Ieee.double (wholeR Ieee.double way s (upR r))) (placeOf Ieee.double (wholeR Ieee.double way s (upR r))) = wholeR Ieee.single way s r := by
  have hp := place32 h
  obtain ⟨hv, hlt⟩ := upR_val h
  have hg := place_ge Ieee.double (upR r)
  rw [dLP] at hg
  have hval : magOf Ieee.double (upR r) * 2 ^ (placeOf Ieee.double (upR r) + 1074).toNat = magOf Ieee.single r * 2 ^ (placeOf Ieee.single r + 1074).toNat := by
    have e1 : val Ieee.double (upR r) = magOf Ieee.double (upR r) * 2 ^ (placeOf Ieee.double (upR r) + 1074).toNat := by
      unfold val; rw [dLP]; congr 2
    have e2 : val Ieee.single r * 2 ^ c925 = magOf Ieee.single r * 2 ^ (placeOf Ieee.single r + 1074).toNat := by
      unfold val
      rw [Nat.mul_assoc, ← Nat.pow_add, sLP]
      have : c925 = 925 := rfl
      congr 2; omega
    rw [← e1, ← e2]; exact hv
  by_cases hi : 0 ≤ placeOf Ieee.single r
  · have hw : wholeR Ieee.single way s r = r := by unfold wholeR; rw [if_pos hi]
    have hd : wholeR Ieee.double way s (upR r) = upR r := by
      unfold wholeR
      by_cases hq : 0 ≤ placeOf Ieee.double (upR r)
      · rw [if_pos hq]
      · rw [if_neg hq]
        have hm : magOf Ieee.double (upR r) = (magOf Ieee.single r * 2 ^ (placeOf Ieee.single r).toNat) * 2 ^ (-placeOf Ieee.double (upR r)).toNat := by
          have e : (placeOf Ieee.single r + 1074).toNat = (placeOf Ieee.single r).toNat + (-placeOf Ieee.double (upR r)).toNat + (placeOf Ieee.double (upR r) + 1074).toNat := by omega
          rw [e, Nat.pow_add, Nat.pow_add, ← Nat.mul_assoc, ← Nat.mul_assoc] at hval
          exact Nat.mul_right_cancel (Nat.two_pow_pos _) hval
        have hu : upBit way s (magOf Ieee.double (upR r)) (-placeOf Ieee.double (upR r)).toNat = false := by
          cases hh : upBit way s (magOf Ieee.double (upR r)) (-placeOf Ieee.double (upR r)).toNat with
          | false => rfl
          | true => have := upBit_rem hh; rw [hm, Nat.mul_mod_left] at this; exact absurd rfl this
        rw [hu]
        have : magOf Ieee.double (upR r) / 2 ^ (-placeOf Ieee.double (upR r)).toNat = magOf Ieee.single r * 2 ^ (placeOf Ieee.single r).toNat := by
          rw [hm, Nat.mul_div_cancel _ (Nat.two_pow_pos _)]
        rw [this]
        simp only [Bool.toNat_false, Nat.add_zero]
        have h1 := rung_scale Ieee.double (magOf Ieee.single r) (placeOf Ieee.single r).toNat (placeOf Ieee.single r)
        rw [show placeOf Ieee.single r - ((placeOf Ieee.single r).toNat : Nat) = 0 by omega] at h1
        rw [h1]
        unfold upR; rw [if_pos h]
    rw [hw, hd]; exact downR h
  · obtain ⟨q, hq⟩ : ∃ q, q = magOf Ieee.single r / 2 ^ (-placeOf Ieee.single r).toNat + (upBit way s (magOf Ieee.single r) (-placeOf Ieee.single r).toNat).toNat := ⟨_, rfl⟩
    have hw : wholeR Ieee.single way s r = rungOf Ieee.single q 0 := by unfold wholeR; rw [if_neg hi, hq]
    rw [hw]
    have key : val Ieee.double (wholeR Ieee.double way s (upR r)) = q * 2 ^ (0 + 1074 : Int).toNat := by
      by_cases hp64 : 0 ≤ placeOf Ieee.double (upR r)
      · have hd : wholeR Ieee.double way s (upR r) = upR r := by unfold wholeR; rw [if_pos hp64]
        have hm : magOf Ieee.single r = (magOf Ieee.double (upR r) * 2 ^ (placeOf Ieee.double (upR r)).toNat) * 2 ^ (-placeOf Ieee.single r).toNat := by
          have e : (placeOf Ieee.double (upR r) + 1074).toNat = (placeOf Ieee.double (upR r)).toNat + (-placeOf Ieee.single r).toNat + (placeOf Ieee.single r + 1074).toNat := by omega
          rw [e, Nat.pow_add, Nat.pow_add, ← Nat.mul_assoc, ← Nat.mul_assoc] at hval
          exact (Nat.mul_right_cancel (Nat.two_pow_pos _) hval).symm
        have hu : upBit way s (magOf Ieee.single r) (-placeOf Ieee.single r).toNat = false := by
          cases hh : upBit way s (magOf Ieee.single r) (-placeOf Ieee.single r).toNat with
          | false => rfl
          | true => have := upBit_rem hh; rw [hm, Nat.mul_mod_left] at this; exact absurd rfl this
        have hq2 : q = magOf Ieee.double (upR r) * 2 ^ (placeOf Ieee.double (upR r)).toNat := by
          rw [hq, hu, hm, Nat.mul_div_cancel _ (Nat.two_pow_pos _)]; rfl
        rw [hd, hq2]
        unfold val
        rw [dLP, Nat.mul_assoc, ← Nat.pow_add]; congr 2; omega
      · have hq2 : q = magOf Ieee.double (upR r) / 2 ^ (-placeOf Ieee.double (upR r)).toNat + (upBit way s (magOf Ieee.double (upR r)) (-placeOf Ieee.double (upR r)).toNat).toNat := by
          have a := upBit_scale way s (magOf Ieee.single r) (-placeOf Ieee.single r).toNat (placeOf Ieee.single r + 1074).toNat
          have b := upBit_scale way s (magOf Ieee.double (upR r)) (-placeOf Ieee.double (upR r)).toNat (placeOf Ieee.double (upR r) + 1074).toNat
          rw [show (-placeOf Ieee.single r).toNat + (placeOf Ieee.single r + 1074).toNat = 1074 by omega, ← hval] at a
          rw [show (-placeOf Ieee.double (upR r)).toNat + (placeOf Ieee.double (upR r) + 1074).toNat = 1074 by omega] at b
          rw [hq, ← a.1, ← a.2, b.1, b.2]
        have hv2 := (whole_val fits_double (way := way) (s := s) hp64).1
        rw [← hq2, dLP] at hv2
        rw [hv2]; congr 2
    exact rung32_of_val key (by omega)
/-- the whole part of a float of 32 bits -/
def fwhole32 (way : Toward) (x : Int) : Int := fconvI .f64 .f32 (fwholeI way (fconvI .f32 .f64 x))
/-- the sign's part of a word -/
def sh (x : Int) : Int := if 2147483648 ≤ x then 2147483648 else 0
def rgV (way : Toward) (x : Int) : Nat := if mg .f32 x = kI .f32 then (mg .f32 x).toNat else wholeR Ieee.single way (decide (kM .f32 ≤ x)) (mg .f32 x).toNat
theorem fwhole32_word {way : Toward} {x : Int} (hx : 0 ≤ x ∧ x ≤ topF .f32) (h : mg .f32 x ≤ kI .f32) : fwhole32 way x = sh x + (rgV way x : Int) ∧ rgV way x ≤ 2139095040 ∧ (mg .f32 x < kI .f32 → rgV way x < 2139095040) := by
  obtain ⟨g1, g2, g3, g4, _⟩ := upW_facts hx h
  have hp := (mg_pos hx).1
  have hu : fwhole32 way x = fconvI .f64 .f32 (fwholeI way (upW x)) := by unfold fwhole32; rw [conv_up hx h]
  obtain ⟨w1, w2, w3⟩ := fwhole_word (way := way) g1 g3
  have hsd : decide (kM .f64 ≤ upW x) = decide (2147483648 ≤ x) := by
    by_cases hh : 2147483648 ≤ x
    · rw [decide_eq_true hh, decide_eq_true (g4.2 hh)]
    · rw [decide_eq_false hh, decide_eq_false (fun c => hh (g4.1 c))]
  have hsg : sg (upW x) = if decide (2147483648 ≤ x) = true then 9223372036854775808 else 0 := by
    have e : sg (upW x) = if 9223372036854775808 ≤ upW x then 9223372036854775808 else 0 := rfl
    have g4' : (9223372036854775808 : Int) ≤ upW x ↔ 2147483648 ≤ x := g4
    rw [e]
    by_cases hh : 2147483648 ≤ x
    · rw [if_pos (g4'.2 hh), if_pos (decide_eq_true hh)]
    · rw [if_neg (fun c => hh (g4'.1 c)), if_neg (by simpa using hh)]
  have hsh : sh x = if decide (2147483648 ≤ x) = true then 2147483648 else 0 := by
    have e : sh x = if 2147483648 ≤ x then 2147483648 else 0 := rfl
    rw [e]
    by_cases hh : 2147483648 ≤ x
    · rw [if_pos hh, if_pos (decide_eq_true hh)]
    · rw [if_neg hh, if_neg (by simpa using hh)]
  rcases Int.lt_or_eq_of_le h with h1 | h1
  · have hr : (mg .f32 x).toNat < 2139095040 := by rw [kI32] at h1; omega
    have hlt := (upR_val hr).2
    have e1 : rgW way (upW x) = wholeR Ieee.double way (decide (2147483648 ≤ x)) (upR (mg .f32 x).toNat) := by
      unfold rgW; rw [if_neg (by rw [g2, kI64]; omega), g2, Int.toNat_natCast, hsd]
    have e2 : rgV way x = wholeR Ieee.single way (decide (2147483648 ≤ x)) (mg .f32 x).toNat := by
      unfold rgV; rw [if_neg (by omega)]; rfl
    have b1 : wholeR Ieee.double way (decide (2147483648 ≤ x)) (upR (mg .f32 x).toNat) < Ieee.double.infRung := whole_lt fits_double (by rw [dIR]; exact hlt)
    have b2 : wholeR Ieee.single way (decide (2147483648 ≤ x)) (mg .f32 x).toNat < Ieee.single.infRung := whole_lt fits_single (by rw [sIR]; exact hr)
    have hwd := whole_down hr way (decide (2147483648 ≤ x))
    rw [e2]
    rw [sIR] at b2
    refine ⟨?_, Nat.le_of_lt b2, fun _ => b2⟩
    rw [hu, w1, hsg, e1, ← word64]
    generalize wholeR Ieee.double way (decide (2147483648 ≤ x)) (upR (mg .f32 x).toNat) = ρ at *
    generalize wholeR Ieee.single way (decide (2147483648 ≤ x)) (mg .f32 x).toNat = σ at *
    obtain ⟨m1, m2⟩ := mod_word Ieee.double (decide (2147483648 ≤ x)) (r := ρ) (by rw [dSW]; rw [dIR] at b1; omega)
    have hd : FloatKind.f64.decode (((Ieee.double.word (decide (2147483648 ≤ x)) ρ : Nat) : Int)).toNat = .number (decide (2147483648 ≤ x)) (magOf Ieee.double ρ) (placeOf Ieee.double ρ) := by
      rw [Int.toNat_natCast]
      have := read_fin Ieee.double (w := Ieee.double.word (decide (2147483648 ≤ x)) ρ) (by rw [m1]; exact b1)
      rw [m1, m2] at this; exact this
    have e : Ieee.single.nearest (decide (2147483648 ≤ x)) (magOf Ieee.double ρ) (placeOf Ieee.double ρ) = Ieee.single.word (decide (2147483648 ≤ x)) σ := by
      rw [nearest_rung, hwd]
    have hi : (FloatKind.f32.decode (FloatKind.f32.encode (.number (decide (2147483648 ≤ x)) (magOf Ieee.double ρ) (placeOf Ieee.double ρ)))).isInfinity = false := by
      show (Ieee.single.read (Ieee.single.nearest _ _ _)).isInfinity = false
      rw [e]; exact read_word_fin _ _ (by rw [sIR]; exact b2)
    unfold fconvI
    rw [hd]
    simp only
    rw [if_neg (by rw [hi]; simp)]
    show ((Ieee.single.nearest _ _ _ : Nat) : Int) = _
    rw [e, word32, hsh]
  · have e2 : rgV way x = (mg .f32 x).toNat := by unfold rgV; rw [if_pos h1]
    have hq : upR (mg .f32 x).toNat = 9218868437227405312 := by unfold upR; rw [if_neg (by rw [kI32] at h1; omega)]
    have e1 : rgW way (upW x) = 9218868437227405312 := by unfold rgW; rw [if_pos (by rw [g2, hq]; rfl), g2, hq]; rfl
    have eU : upW x = sg (upW x) + 9218868437227405312 := by
      have : upW x = (if 2147483648 ≤ x then 9223372036854775808 else 0) + (upR (mg .f32 x).toNat : Int) := rfl
      rw [hq] at this
      rw [hsg]
      by_cases hh : 2147483648 ≤ x
      · rw [if_pos hh] at this; rw [if_pos (decide_eq_true hh)]; exact this
      · rw [if_neg hh] at this; rw [if_neg (by simpa using hh)]; exact this
    have ew : fwholeI way (upW x) = upW x := by rw [w1, e1]; exact eU.symm
    rw [hu, ew, conv_down hx h, e2]
    rw [kI32] at h1
    refine ⟨?_, by omega, fun hh => by rw [kI32] at hh; omega⟩
    have : mg .f32 x = if kM .f32 ≤ x then x - kM .f32 else x := rfl
    rw [kM32] at this
    rw [hsh]
    by_cases hh : 2147483648 ≤ x
    · rw [if_pos hh] at this; rw [if_pos (decide_eq_true hh)]; omega
    · rw [if_neg hh] at this; rw [if_neg (by simpa using hh)]; omega
theorem sh_add {x : Int} {r : Nat} (hr : r ≤ 2139095040) : (0 ≤ sh x + (r : Int) ∧ sh x + (r : Int) ≤ topF .f32) ∧ mg .f32 (sh x + (r : Int)) = r ∧ (kM .f32 ≤ sh x + (r : Int) ↔ kM .f32 ≤ x) ∧ ky .f32 (sh x + (r : Int)) = if 2147483648 ≤ x then -(r : Int) else r := by
  have e : sh x = if 2147483648 ≤ x then 2147483648 else 0 := rfl
  have t : topF .f32 = 4294967295 := rfl
  unfold mg ky
  rw [kM32, t]
  by_cases h : 2147483648 ≤ x
  · rw [if_pos h] at e
    rw [e, if_pos (by omega), if_pos (by omega), if_pos h]
    omega
  · rw [if_neg h] at e
    rw [e, if_neg (by omega), if_neg (by omega), if_neg h]
    omega
theorem ky_y {x : Int} (_hx : 0 ≤ x ∧ x ≤ topF .f32) : ky .f32 x = if 2147483648 ≤ x then -(mg .f32 x) else mg .f32 x := by
  unfold ky mg; rw [kM32]; split <;> omega
section
variable {x : Int} (hx : 0 ≤ x ∧ x ≤ topF .f32) (h : mg .f32 x ≤ kI .f32)
include hx h
theorem rh_again (w1 w2 : Toward) : fwhole32 w2 (sh x + (rgV w1 x : Int)) = sh x + (rgV w1 x : Int) := by
  obtain ⟨_, r1, r2⟩ := fwhole32_word (way := w1) hx h
  obtain ⟨g1, g2, g3, _⟩ := sh_add (x := x) r1
  have hk : kI .f32 = 2139095040 := rfl
  obtain ⟨e, _, _⟩ := fwhole32_word (way := w2) g1 (by rw [g2, hk]; omega)
  rw [e]
  have hs : sh (sh x + (rgV w1 x : Int)) = sh x := by
    have g3' : (2147483648 : Int) ≤ sh x + (rgV w1 x : Int) ↔ 2147483648 ≤ x := g3
    show (if (2147483648 : Int) ≤ sh x + (rgV w1 x : Int) then 2147483648 else 0) = _
    unfold sh at g3' ⊢
    by_cases hh : 2147483648 ≤ x
    · rw [if_pos (g3'.2 hh), if_pos hh]
    · rw [if_neg (fun c => hh (g3'.1 c)), if_neg hh]
  rw [hs]
  have hr : rgV w2 (sh x + (rgV w1 x : Int)) = rgV w1 x := by
    have hq : rgV w2 (sh x + (rgV w1 x : Int)) = if mg .f32 (sh x + (rgV w1 x : Int)) = kI .f32 then (mg .f32 (sh x + (rgV w1 x : Int))).toNat else wholeR Ieee.single w2 (decide (kM .f32 ≤ sh x + (rgV w1 x : Int))) (mg .f32 (sh x + (rgV w1 x : Int))).toNat := rfl
    rw [hq, g2, Int.toNat_natCast]
    by_cases hi : ((rgV w1 x : Nat) : Int) = kI .f32
    · rw [if_pos hi]
    · rw [if_neg hi]
      by_cases hm : mg .f32 x = kI .f32
      · exfalso; apply hi
        have : rgV w1 x = (mg .f32 x).toNat := by unfold rgV; rw [if_pos hm]
        rw [this, hm]; decide
      · have : rgV w1 x = wholeR Ieee.single w1 (decide (kM .f32 ≤ x)) (mg .f32 x).toNat := by unfold rgV; rw [if_neg hm]
        rw [this]; exact whole_again fits_single w2 _
  rw [hr]
theorem rh_le (way : Toward) (hu : ∀ r d, upBit way (decide (kM .f32 ≤ x)) r d = false) : (rgV way x : Int) ≤ mg .f32 x := by
  have hp := (mg_pos hx).1
  unfold rgV
  by_cases hm : mg .f32 x = kI .f32
  · rw [if_pos hm]; omega
  · rw [if_neg hm]
    have := whole_le (f := Ieee.single) (way := way) (s := decide (kM .f32 ≤ x)) (r := (mg .f32 x).toNat) (by rw [sIR]; have : kI .f32 = 2139095040 := rfl; omega) (hu _ _)
    omega
theorem rh_ge (way : Toward) (hu : ∀ r d, upBit way (decide (kM .f32 ≤ x)) r d = true ∨ r % 2 ^ d = 0) : mg .f32 x ≤ (rgV way x : Int) := by
  have hp := (mg_pos hx).1
  unfold rgV
  by_cases hm : mg .f32 x = kI .f32
  · rw [if_pos hm]; omega
  · rw [if_neg hm]
    have := whole_ge (f := Ieee.single) (way := way) (s := decide (kM .f32 ≤ x)) (r := (mg .f32 x).toNat) (by rw [sIR]; have : kI .f32 = 2139095040 := rfl; omega) (hu _ _)
    omega
theorem rh_down : ky .f32 (sh x + (rgV .down x : Int)) ≤ ky .f32 x := by
  obtain ⟨_, r1, _⟩ := fwhole32_word (way := .down) hx h
  rw [(sh_add (x := x) r1).2.2.2, ky_y hx]
  by_cases hs : 2147483648 ≤ x
  · rw [if_pos hs, if_pos hs]
    have := rh_ge hx h .down (fun r d => by
      have : decide (kM .f32 ≤ x) = true := decide_eq_true hs
      rw [this]; unfold upBit
      by_cases hz : r % 2 ^ d = 0
      · exact .inr hz
      · exact .inl (by simp [hz]))
    omega
  · rw [if_neg hs, if_neg hs]
    exact rh_le hx h .down fun r d => by
      have : decide (kM .f32 ≤ x) = false := decide_eq_false hs
      rw [this]; unfold upBit; simp
theorem rh_up : ky .f32 x ≤ ky .f32 (sh x + (rgV .up x : Int)) := by
  obtain ⟨_, r1, _⟩ := fwhole32_word (way := .up) hx h
  rw [(sh_add (x := x) r1).2.2.2, ky_y hx]
  by_cases hs : 2147483648 ≤ x
  · rw [if_pos hs, if_pos hs]
    have := rh_le hx h .up (fun r d => by
      have : decide (kM .f32 ≤ x) = true := decide_eq_true hs
      rw [this]; unfold upBit; simp)
    omega
  · rw [if_neg hs, if_neg hs]
    exact rh_ge hx h .up fun r d => by
      have : decide (kM .f32 ≤ x) = false := decide_eq_false hs
      rw [this]; unfold upBit
      by_cases hz : r % 2 ^ d = 0
      · exact .inr hz
      · exact .inl (by simp [hz])
omit hx h in
theorem rh_one (way : Toward) : rgV way x = rgV .up x ∨ rgV way x = rgV .down x := by
  unfold rgV
  by_cases hm : mg .f32 x = kI .f32
  · rw [if_pos hm, if_pos hm]; exact .inl rfl
  · rw [if_neg hm, if_neg hm, if_neg hm]
    generalize decide (kM .f32 ≤ x) = s
    generalize (mg .f32 x).toNat = r
    have key : ∀ w : Toward, upBit way s (magOf Ieee.single r) (-placeOf Ieee.single r).toNat = upBit w s (magOf Ieee.single r) (-placeOf Ieee.single r).toNat → wholeR Ieee.single way s r = wholeR Ieee.single w s r := fun w hh => whole_same hh
    generalize magOf Ieee.single r = m at key
    generalize (-placeOf Ieee.single r).toNat = d at key
    by_cases hz : m % 2 ^ d = 0
    · left
      apply key
      have h1 : ∀ w, upBit w s m d = false := fun w => by
        cases hu : upBit w s m d with
        | false => rfl
        | true => exact absurd hz (upBit_rem hu)
      rw [h1, h1]
    · have hu : upBit .up s m d = !s := by unfold upBit; simp [hz]
      have hd : upBit .down s m d = s := by unfold upBit; simp [hz]
      cases hq : upBit way s m d with
      | true => cases s with
        | false => exact .inl (key _ (by rw [hq, hu]; rfl))
        | true => exact .inr (key _ (by rw [hq, hd]))
      | false => cases s with
        | false => exact .inr (key _ (by rw [hq, hd]))
        | true => exact .inl (key _ (by rw [hq, hu]; rfl))
end
theorem num_of_conv {x : Int} (hx : 0 ≤ x ∧ x ≤ topF .f32) (h : ¬ fconvI .f32 .f64 x = -1) : mg .f32 x ≤ kI .f32 := by
  rcases Int.lt_or_le (kI .f32) (mg .f32 x) with hn | hn
  · exfalso; apply h
    rw [← conv_nan]
    have hd : FloatKind.f32.decode x.toNat = .nan _ _ := read_nan Ieee.single (by decide) ((nan_nat (k := .f32) hx).2 hn)
    rw [hd]; rfl
  · exact hn
theorem conv_num {x : Int} (hx : 0 ≤ x ∧ x ≤ topF .f32) (h : mg .f32 x ≤ kI .f32) : ¬ fconvI .f32 .f64 x = -1 := by
  rw [conv_up hx h]; have := (upW_facts hx h).1.1; omega
theorem conv_bad {x : Int} (hx : 0 ≤ x ∧ x ≤ topF .f32) (h : kI .f32 < mg .f32 x) : fconvI .f32 .f64 x = -1 := by
  rw [← conv_nan]
  have hd : FloatKind.f32.decode x.toNat = .nan _ _ := read_nan Ieee.single (by decide) ((nan_nat (k := .f32) hx).2 h)
  rw [hd]; rfl
theorem whole32_rng {x : Int} (hx : 0 ≤ x ∧ x ≤ topF .f32) (way : Toward) (h : ¬ fconvI .f32 .f64 x = -1) : 0 ≤ fconvI .f64 .f32 (fwholeI way (fconvI .f32 .f64 x)) ∧ fconvI .f64 .f32 (fwholeI way (fconvI .f32 .f64 x)) ≤ topF .f32 := by
  have hn := num_of_conv hx h
  obtain ⟨e, r1, _⟩ := fwhole32_word (way := way) hx hn
  have e' : fconvI .f64 .f32 (fwholeI way (fconvI .f32 .f64 x)) = sh x + (rgV way x : Int) := e
  rw [e']; exact (sh_add (x := x) r1).1
theorem whole32_ne {way : Toward} {a : Int} (h : ¬ fconvI .f32 .f64 (IntKind.u32.wrap a) = -1) : fconvI .f64 .f32 (fwholeI way (fconvI .f32 .f64 (IntKind.u32.wrap a))) ≠ -2 := by
  rw [w32_eq] at *
  have := (whole32_rng (w32_in a) way h).1
  omega
end Go.Sx
