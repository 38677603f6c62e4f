/- Whole numbers as floats, and whole parts, as whole numbers that are the words. No condition. -/
import Derived.Test.YtnodelimomljbaaPlFltH
import Derived.Test.YtnodelimomljbaaPlFltE
namespace Go.Sx
open Go Ieee

theorem i2f_nat (k : FloatKind) (n : Nat) : k.nearest (n : Int) = rungOf k.format n 0 := by
  have e : k.nearest (n : Int) = k.format.nearest (decide ((n : Int) < 0)) (n : Int).natAbs 0 := rfl
  rw [e, nearest_rung, decide_eq_false (by omega)]
  show rungOf k.format (n : Int).natAbs 0 = _
  rw [Int.natAbs_natCast]
theorem i2f_le (k : FloatKind) {a b : Int} (ha : 0 ≤ a) (hab : a ≤ b) : ((k.nearest a : Nat) : Int) ≤ ((k.nearest b : Nat) : Int) ∧ ((k.nearest b : Nat) : Int) ≤ kI k := by
  obtain ⟨m, rfl⟩ := Int.eq_ofNat_of_zero_le ha
  obtain ⟨n, rfl⟩ := Int.eq_ofNat_of_zero_le (show 0 ≤ b by omega)
  rw [i2f_nat, i2f_nat]
  have h1 := rung_mono k.format 0 (show m ≤ n by omega)
  have h2 := rung_le k.format n 0
  have h3 := fmt_I k
  omega

/-! ### whole parts -/
theorem fwhole_nan {way : Toward} {x : Int} (hx : 0 ≤ x ∧ x ≤ topF .f64) (h : kI .f64 < mg .f64 x) : fwholeI way x = -1 := by
  have hd : FloatKind.f64.decode x.toNat = .nan _ _ := read_nan Ieee.double (by decide) ((nan_nat (k := .f64) hx).2 h)
  unfold fwholeI; rw [hd]
/-- the sign's part of a word -/
def sg (x : Int) : Int := if 9223372036854775808 ≤ x then 9223372036854775808 else 0
def rgW (way : Toward) (x : Int) : Nat := if mg .f64 x = kI .f64 then (mg .f64 x).toNat else wholeR Ieee.double way (decide (kM .f64 ≤ x)) (mg .f64 x).toNat
theorem word_int (s : Bool) (r : Nat) : ((Ieee.double.word s r : Nat) : Int) = (if s then 9223372036854775808 else 0) + (r : Int) := by
  unfold Format.word
  rw [dSW]
  cases s
  · show (r : Int) = 0 + (r : Int); omega
  · show ((9223372036854775808 + r : Nat) : Int) = 9223372036854775808 + (r : Int); omega
theorem fwhole_word {way : Toward} {x : Int} (hx : 0 ≤ x ∧ x ≤ topF .f64) (h : mg .f64 x ≤ kI .f64) : fwholeI way x = sg x + (rgW way x : Int) ∧ rgW way x ≤ 9218868437227405312 ∧ (mg .f64 x < kI .f64 → rgW way x < 9218868437227405312) := by
  have hs := (nat_mod hx).2
  have hm := (nat_mod hx).1
  have hb : decide (kM .f64 ≤ x) = decide (9223372036854775808 ≤ x) := rfl
  have hk : kI .f64 = 9218868437227405312 := rfl
  have hsg : (if decide (kM .f64 ≤ x) = true then 9223372036854775808 else 0 : Int) = sg x := by
    unfold sg; rw [hb]; by_cases hh : 9223372036854775808 ≤ x <;> simp [hh]
  rcases Int.lt_or_eq_of_le h with h1 | h1
  · have hl : x.toNat % Ieee.double.signWeight < Ieee.double.infRung := (fin_nat (k := .f64) hx).2 h1
    have hd : FloatKind.f64.decode x.toNat = .number (x.toNat / Ieee.double.signWeight % 2 == 1) (magOf Ieee.double (x.toNat % Ieee.double.signWeight)) (placeOf Ieee.double (x.toNat % Ieee.double.signWeight)) := read_fin Ieee.double hl
    have hmn : x.toNat % Ieee.double.signWeight = (mg .f64 x).toNat := by
      have hm' : ((x.toNat % Ieee.double.signWeight : Nat) : Int) = mg .f64 x := hm
      omega
    have hss : (x.toNat / Ieee.double.signWeight % 2 == 1) = decide (kM .f64 ≤ x) := hs
    have e : fwholeI way x = ((Ieee.double.write ((Datum.number (decide (kM .f64 ≤ x)) (magOf Ieee.double (mg .f64 x).toNat) (placeOf Ieee.double (mg .f64 x).toNat)).integral way) : Nat) : Int) := by
      unfold fwholeI; rw [hd, hmn, hss]; rfl
    rw [hmn] at hl
    have hw := whole_lt fits_double (way := way) (s := decide (kM .f64 ≤ x)) hl
    rw [dIR] at hw
    rw [e, write_whole Ieee.double way _ (Nat.le_of_lt hl), word_int, hsg]
    unfold rgW
    rw [if_neg (by omega)]
    exact ⟨rfl, Nat.le_of_lt hw, fun _ => hw⟩
  · have hl : x.toNat % Ieee.double.signWeight = Ieee.double.infRung := by
      have hm' : ((x.toNat % Ieee.double.signWeight : Nat) : Int) = mg .f64 x := hm
      rw [dIR]; omega
    have hd : FloatKind.f64.decode x.toNat = .infinity (x.toNat / Ieee.double.signWeight % 2 == 1) := read_inf Ieee.double (by decide) hl
    have hss : (x.toNat / Ieee.double.signWeight % 2 == 1) = decide (kM .f64 ≤ x) := hs
    have e : fwholeI way x = ((Ieee.double.word (decide (kM .f64 ≤ x)) Ieee.double.infRung : Nat) : Int) := by
      unfold fwholeI; rw [hd, hss]; rfl
    rw [e, word_int, hsg, dIR]
    unfold rgW
    rw [if_pos h1]
    exact ⟨by omega, by omega, fun hh => by omega⟩
theorem sg_add {x : Int} {r : Nat} (hr : r ≤ 9218868437227405312) : (0 ≤ sg x + (r : Int) ∧ sg x + (r : Int) ≤ topF .f64) ∧ mg .f64 (sg x + (r : Int)) = r ∧ (kM .f64 ≤ sg x + (r : Int) ↔ kM .f64 ≤ x) ∧ ky .f64 (sg x + (r : Int)) = if 9223372036854775808 ≤ x then -(r : Int) else r := by
  have e : sg x = if 9223372036854775808 ≤ x then 9223372036854775808 else 0 := rfl
  have t : topF .f64 = 18446744073709551615 := rfl
  unfold mg ky
  rw [kM64, t]
  by_cases h : 9223372036854775808 ≤ x
  · rw [if_pos h] at e
    rw [e, if_pos (by omega), if_pos (by omega), if_pos h]
    omega
  · rw [if_neg h] at e
    rw [e, if_neg (by omega), if_neg (by omega), if_neg h]
    omega
theorem ky_x {x : Int} (_hx : 0 ≤ x ∧ x ≤ topF .f64) : ky .f64 x = if 9223372036854775808 ≤ x then -(mg .f64 x) else mg .f64 x := by
  unfold ky mg; rw [kM64]; split <;> omega
section
variable {x : Int} (hx : 0 ≤ x ∧ x ≤ topF .f64) (h : mg .f64 x ≤ kI .f64)
include hx h
theorem rg_again (w1 w2 : Toward) : fwholeI w2 (sg x + (rgW w1 x : Int)) = sg x + (rgW w1 x : Int) := by
  obtain ⟨_, r1, r2⟩ := fwhole_word (way := w1) hx h
  obtain ⟨g1, g2, g3, _⟩ := sg_add (x := x) r1
  have hk : kI .f64 = 9218868437227405312 := rfl
  obtain ⟨e, _, _⟩ := fwhole_word (way := w2) g1 (by rw [g2, hk]; omega)
  rw [e]
  have hs : sg (sg x + (rgW w1 x : Int)) = sg x := by
    have g3' : (9223372036854775808 : Int) ≤ sg x + (rgW w1 x : Int) ↔ 9223372036854775808 ≤ x := g3
    show (if (9223372036854775808 : Int) ≤ sg x + (rgW w1 x : Int) then 9223372036854775808 else 0) = _
    unfold sg at g3' ⊢
    by_cases hh : 9223372036854775808 ≤ x
    · rw [if_pos (g3'.2 hh), if_pos hh]
    · rw [if_neg (fun c => hh (g3'.1 c)), if_neg hh]
  rw [hs]
  have hr : rgW w2 (sg x + (rgW w1 x : Int)) = rgW w1 x := by
    have hq : rgW w2 (sg x + (rgW w1 x : Int)) = if mg .f64 (sg x + (rgW w1 x : Int)) = kI .f64 then (mg .f64 (sg x + (rgW w1 x : Int))).toNat else wholeR Ieee.double w2 (decide (kM .f64 ≤ sg x + (rgW w1 x : Int))) (mg .f64 (sg x + (rgW w1 x : Int))).toNat := rfl
    rw [hq, g2, Int.toNat_natCast]
    by_cases hi : ((rgW w1 x : Nat) : Int) = kI .f64
    · rw [if_pos hi]
    · rw [if_neg hi]
      by_cases hm : mg .f64 x = kI .f64
      · exfalso; apply hi
        have : rgW w1 x = (mg .f64 x).toNat := by unfold rgW; rw [if_pos hm]
        rw [this, hm]; decide
      · have : rgW w1 x = wholeR Ieee.double w1 (decide (kM .f64 ≤ x)) (mg .f64 x).toNat := by unfold rgW; rw [if_neg hm]
        rw [this]; exact whole_again fits_double w2 _
  rw [hr]
theorem rg_le (way : Toward) (hu : ∀ r d, upBit way (decide (kM .f64 ≤ x)) r d = false) : (rgW way x : Int) ≤ mg .f64 x := by
  have hp := (mg_pos hx).1
  unfold rgW
  by_cases hm : mg .f64 x = kI .f64
  · rw [if_pos hm]; omega
  · rw [if_neg hm]
    have := whole_le (f := Ieee.double) (way := way) (s := decide (kM .f64 ≤ x)) (r := (mg .f64 x).toNat) (by rw [dIR]; have : kI .f64 = 9218868437227405312 := rfl; omega) (hu _ _)
    omega
theorem rg_ge (way : Toward) (hu : ∀ r d, upBit way (decide (kM .f64 ≤ x)) r d = true ∨ r % 2 ^ d = 0) : mg .f64 x ≤ (rgW way x : Int) := by
  have hp := (mg_pos hx).1
  unfold rgW
  by_cases hm : mg .f64 x = kI .f64
  · rw [if_pos hm]; omega
  · rw [if_neg hm]
    have := whole_ge (f := Ieee.double) (way := way) (s := decide (kM .f64 ≤ x)) (r := (mg .f64 x).toNat) (by rw [dIR]; have : kI .f64 = 9218868437227405312 := rfl; omega) (hu _ _)
    omega
theorem rg_down : ky .f64 (sg x + (rgW .down x : Int)) ≤ ky .f64 x := by
  obtain ⟨_, r1, _⟩ := fwhole_word (way := .down) hx h
  rw [(sg_add (x := x) r1).2.2.2, ky_x hx]
  by_cases hs : 9223372036854775808 ≤ x
  · rw [if_pos hs, if_pos hs]
    have := rg_ge hx h .down (fun r d => by
      have : decide (kM .f64 ≤ x) = true := decide_eq_true hs
      rw [this]; unfold upBit
      by_cases hz : r % 2 ^ d = 0
      · exact .inr hz
      · exact .inl (by simp [hz]))
    omega
  · rw [if_neg hs, if_neg hs]
    exact rg_le hx h .down fun r d => by
      have : decide (kM .f64 ≤ x) = false := decide_eq_false hs
      rw [this]; unfold upBit; simp
theorem rg_up : ky .f64 x ≤ ky .f64 (sg x + (rgW .up x : Int)) := by
  obtain ⟨_, r1, _⟩ := fwhole_word (way := .up) hx h
  rw [(sg_add (x := x) r1).2.2.2, ky_x hx]
  by_cases hs : 9223372036854775808 ≤ x
  · rw [if_pos hs, if_pos hs]
    have := rg_le hx h .up (fun r d => by
      have : decide (kM .f64 ≤ x) = true := decide_eq_true hs
      rw [this]; unfold upBit; simp)
    omega
  · rw [if_neg hs, if_neg hs]
    exact rg_ge hx h .up fun r d => by
      have : decide (kM .f64 ≤ x) = false := decide_eq_false hs
      rw [this]; unfold upBit
      by_cases hz : r % 2 ^ d = 0
      · exact .inr hz
      · exact .inl (by simp [hz])
omit hx h in
theorem rg_one (way : Toward) : rgW way x = rgW .up x ∨ rgW way x = rgW .down x := by
  unfold rgW
  by_cases hm : mg .f64 x = kI .f64
  · rw [if_pos hm, if_pos hm]; exact .inl rfl
  · rw [if_neg hm, if_neg hm, if_neg hm]
    generalize decide (kM .f64 ≤ x) = s
    generalize (mg .f64 x).toNat = r
    have key : ∀ w : Toward, upBit way s (magOf Ieee.double r) (-placeOf Ieee.double r).toNat = upBit w s (magOf Ieee.double r) (-placeOf Ieee.double r).toNat → wholeR Ieee.double way s r = wholeR Ieee.double w s r := fun w hh => whole_same hh
    generalize magOf Ieee.double r = m at key
    generalize (-placeOf Ieee.double r).toNat = d at key
    by_cases hz : m % 2 ^ d = 0
    · left
      apply key
      have h1 : ∀ w, upBit w s m d = false := fun w => by
        cases hu : upBit w s m d with
        | false => rfl
        | true => exact absurd hz (upBit_rem hu)
      rw [h1, h1]
    · have hu : upBit .up s m d = !s := by unfold upBit; simp [hz]
      have hd : upBit .down s m d = s := by unfold upBit; simp [hz]
      cases hq : upBit way s m d with
      | true => cases s with
        | false => exact .inl (key _ (by rw [hq, hu]; rfl))
        | true => exact .inr (key _ (by rw [hq, hd]))
      | false => cases s with
        | false => exact .inr (key _ (by rw [hq, hd]))
        | true => exact .inl (key _ (by rw [hq, hu]; rfl))
end
end Go.Sx
