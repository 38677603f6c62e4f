/- Floats that are cut toward nought: whole numbers and how they stand. No condition. -/
import Derived.Test.YtnodelimomljbaaPlFltN
namespace Go.Sx
open Go Ieee

theorem c1074_eq : c1074 = 1074 := by unfold c1074; rfl
/-- a rung's whole part -/
def tz (r : Nat) : Nat := val Ieee.double r / 2 ^ c1074
theorem tz_up {r : Nat} (h : 0 ≤ placeOf Ieee.double r) : tz r = magOf Ieee.double r * 2 ^ (placeOf Ieee.double r).toNat ∧ val Ieee.double r = tz r * 2 ^ c1074 := by
  have e : val Ieee.double r = magOf Ieee.double r * 2 ^ (placeOf Ieee.double r).toNat * 2 ^ c1074 := by
    unfold val
    rw [dLP, Nat.mul_assoc, ← Nat.pow_add]
    have := c1074_eq
    congr 2; omega
  have e2 : tz r = magOf Ieee.double r * 2 ^ (placeOf Ieee.double r).toNat := by
    unfold tz; rw [e, Nat.mul_div_cancel _ (Nat.two_pow_pos _)]
  exact ⟨e2, by rw [e2]; exact e⟩
theorem tz_down {r : Nat} (h : ¬ 0 ≤ placeOf Ieee.double r) : tz r = magOf Ieee.double r / 2 ^ (-placeOf Ieee.double r).toNat := by
  have hg := place_ge Ieee.double r
  rw [dLP] at hg
  have hc := c1074_eq
  unfold tz val
  rw [dLP]
  have e : c1074 = (placeOf Ieee.double r - -1074).toNat + (-placeOf Ieee.double r).toNat := by omega
  rw [e, Nat.pow_add, Nat.mul_comm (2 ^ (placeOf Ieee.double r - -1074).toNat), Nat.mul_div_mul_right _ _ (Nat.two_pow_pos _)]
theorem up_zero (s : Bool) (n d : Nat) : upBit .zero s n d = false := rfl
theorem whole_tz (s : Bool) {r : Nat} : val Ieee.double (wholeR Ieee.double .zero s r) = tz r * 2 ^ c1074 := by
  by_cases h : 0 ≤ placeOf Ieee.double r
  · unfold wholeR; rw [if_pos h]; exact (tz_up h).2
  · have := (whole_val fits_double (way := .zero) (s := s) h).1
    rw [this, up_zero, tz_down h, dLP]
    have hc := c1074_eq
    have : (0 - -1074 : Int).toNat = c1074 := by omega
    rw [this]; simp
theorem trunc_word {x : Int} (hx : 0 ≤ x ∧ x ≤ topF .f64) (h : mg .f64 x < kI .f64) : ftruncI .f64 x = if kM .f64 ≤ x then -((tz (mg .f64 x).toNat : Nat) : Int) else ((tz (mg .f64 x).toNat : Nat) : Int) := by
  have hs : (x.toNat / Ieee.double.signWeight % 2 == 1) = decide (kM .f64 ≤ x) := (nat_mod (k := .f64) hx).2
  have hm' : ((x.toNat % Ieee.double.signWeight : Nat) : Int) = mg .f64 x := (nat_mod (k := .f64) hx).1
  have hmn : x.toNat % Ieee.double.signWeight = (mg .f64 x).toNat := by omega
  have hl : x.toNat % Ieee.double.signWeight < Ieee.double.infRung := (fin_nat (k := .f64) hx).2 h
  have hd : FloatKind.f64.decode x.toNat = .number _ _ _ := read_fin Ieee.double hl
  rw [hs, hmn] at hd
  have e : (FloatKind.f64.decode x.toNat).toInt .zero = some (if kM .f64 ≤ x then -((tz (mg .f64 x).toNat : Nat) : Int) else ((tz (mg .f64 x).toNat : Nat) : Int)) := by
    rw [hd]
    generalize (mg .f64 x).toNat = r
    unfold Datum.toInt Datum.integral
    simp only [cut_eq, up_zero, Bool.toNat_false, Nat.add_zero]
    have e3 : magOf Ieee.double r <<< (placeOf Ieee.double r).toNat / 2 ^ (-placeOf Ieee.double r).toNat = tz r := by
      rw [Nat.shiftLeft_eq]
      by_cases hp : 0 ≤ placeOf Ieee.double r
      · rw [(tz_up hp).1, show (-placeOf Ieee.double r).toNat = 0 by omega]; simp
      · rw [tz_down hp, show (placeOf Ieee.double r).toNat = 0 by omega]; simp
    rw [e3]
    unfold signed
    by_cases hk : kM .f64 ≤ x <;> simp [hk]
  unfold ftruncI
  rw [e]
theorem trunc_inf {x : Int} (hx : 0 ≤ x ∧ x ≤ topF .f64) (h : mg .f64 x = kI .f64) : (18446744073709551616 : Int) ≤ ftruncI .f64 x := by
  have hm' : ((x.toNat % Ieee.double.signWeight : Nat) : Int) = mg .f64 x := (nat_mod (k := .f64) hx).1
  have hl : x.toNat % Ieee.double.signWeight = Ieee.double.infRung := by
    rw [dIR]; rw [kI64] at h; omega
  have hd : FloatKind.f64.decode x.toNat = .infinity (x.toNat / Ieee.double.signWeight % 2 == 1) := read_inf Ieee.double (by decide) hl
  have e : (FloatKind.f64.decode x.toNat).toInt .zero = none := by rw [hd]; rfl
  have big : ∀ c : Nat, 64 ≤ c → (18446744073709551616 : Int) ≤ 2 ^ c := fun c hc => by
    have h1 : (2 : Nat) ^ 64 ≤ 2 ^ c := Nat.pow_le_pow_right (by decide) hc
    have h2 : (((2 : Nat) ^ c : Nat) : Int) = 2 ^ c := by rw [Int.natCast_pow]; rfl
    rw [← h2]
    have h3 : (2 : Nat) ^ 64 = 18446744073709551616 := by decide
    omega
  unfold ftruncI
  rw [e]
  exact big _ (by decide)
/-- whole words stand as their numbers do -/
theorem ford_whole {x y : Int} {a b : Nat} (hx : 0 ≤ x ∧ x ≤ topF .f64) (hy : 0 ≤ y ∧ y ≤ topF .f64) (fx : mg .f64 x < kI .f64) (fy : mg .f64 y < kI .f64)
    (ha : val Ieee.double (mg .f64 x).toNat = a * 2 ^ c1074) (hb : val Ieee.double (mg .f64 y).toNat = b * 2 ^ c1074) :
    fordI .f64 x y = if (if kM .f64 ≤ x then -(a : Int) else a) = (if kM .f64 ≤ y then -(b : Int) else b) then 0 else if (if kM .f64 ≤ x then -(a : Int) else a) < (if kM .f64 ≤ y then -(b : Int) else b) then 1 else 2 := by
  have px := (mg_pos hx).1
  have py := (mg_pos hy).1
  have v0 : val Ieee.double 0 = 0 := by rw [val_eq, dBI]; rfl
  have pc : 0 < 2 ^ c1074 := Nat.two_pow_pos _
  have lt : ∀ (r q m n : Nat), val Ieee.double r = m * 2 ^ c1074 → val Ieee.double q = n * 2 ^ c1074 → r < q → m < n := fun r q m n h1 h2 h => by
    have := val_lt Ieee.double h
    rw [h1, h2] at this
    exact Nat.lt_of_mul_lt_mul_right this
  have eqv : ∀ (r m n : Nat), val Ieee.double r = m * 2 ^ c1074 → val Ieee.double r = n * 2 ^ c1074 → m = n := fun r m n h1 h2 => Nat.eq_of_mul_eq_mul_right pc (by rw [← h1, ← h2])
  have l1 := lt _ _ _ _ ha hb
  have l2 := lt _ _ _ _ hb ha
  have l3 := lt 0 _ 0 _ (by rw [v0]; simp) ha
  have l4 := lt 0 _ 0 _ (by rw [v0]; simp) hb
  have q1 : (mg .f64 x).toNat = (mg .f64 y).toNat → a = b := fun h => eqv _ _ _ ha (by rw [h]; exact hb)
  have q2 : (mg .f64 x).toNat = 0 → a = 0 := fun h => eqv _ _ _ ha (by rw [h, v0]; simp)
  have q3 : (mg .f64 y).toNat = 0 → b = 0 := fun h => eqv _ _ _ hb (by rw [h, v0]; simp)
  rw [ford_eq hx hy, if_neg (by omega), ky_x hx, ky_x hy]
  have hk : kM .f64 = 9223372036854775808 := rfl
  rw [hk]
  generalize mg .f64 x = m at *
  generalize mg .f64 y = n at *
  clear ha hb lt eqv
  by_cases sx : 9223372036854775808 ≤ x <;> by_cases sy : 9223372036854775808 ≤ y <;> simp only [sx, sy, if_true, if_false] <;>
  · repeat' split
    all_goals omega
theorem pow_word (k : Nat) : val Ieee.double ((1022 + k + 1) * Ieee.double.binade) = 2 ^ k * 2 ^ c1074 := by
  rw [great_rung]
  have e : Ieee.double.binade = 2 ^ 52 := by rw [dBI]
  have hc := c1074_eq
  rw [e, ← Nat.pow_add, ← Nat.pow_add]
  congr 1; omega
theorem val31 : val Ieee.double 4746794007248502784 = 2147483648 * 2 ^ c1074 := by
  have h := pow_word 31
  rw [dBI, show (1022 + 31 + 1) * 4503599627370496 = 4746794007248502784 by decide, show (2 : Nat) ^ 31 = 2147483648 by decide] at h; exact h
theorem val32 : val Ieee.double 4751297606875873280 = 4294967296 * 2 ^ c1074 := by
  have h := pow_word 32
  rw [dBI, show (1022 + 32 + 1) * 4503599627370496 = 4751297606875873280 by decide, show (2 : Nat) ^ 32 = 4294967296 by decide] at h; exact h
theorem val63 : val Ieee.double 4890909195324358656 = 9223372036854775808 * 2 ^ c1074 := by
  have h := pow_word 63
  rw [dBI, show (1022 + 63 + 1) * 4503599627370496 = 4890909195324358656 by decide, show (2 : Nat) ^ 63 = 9223372036854775808 by decide] at h; exact h
theorem val64 : val Ieee.double 4895412794951729152 = 18446744073709551616 * 2 ^ c1074 := by
  have h := pow_word 64
  rw [dBI, show (1022 + 64 + 1) * 4503599627370496 = 4895412794951729152 by decide, show (2 : Nat) ^ 64 = 18446744073709551616 by decide] at h; exact h
theorem val0 : val Ieee.double 0 = 0 * 2 ^ c1074 := by
  have : val Ieee.double 0 = 0 := by rw [val_eq, dBI]; rfl
  rw [this]; simp
section
variable {x : Int} (hx : 0 ≤ x ∧ x ≤ topF .f64) (h : mg .f64 x < kI .f64)
include hx h
/-- the cut float: its facts -/
theorem cut_word : (0 ≤ fwholeI .zero x ∧ fwholeI .zero x ≤ topF .f64) ∧ mg .f64 (fwholeI .zero x) < kI .f64 ∧ (kM .f64 ≤ fwholeI .zero x ↔ kM .f64 ≤ x) ∧ val Ieee.double (mg .f64 (fwholeI .zero x)).toNat = tz (mg .f64 x).toNat * 2 ^ c1074 := by
  obtain ⟨e1, e2, e3⟩ := fwhole_word (way := .zero) hx (Int.le_of_lt h)
  obtain ⟨s1, s2, s3, _⟩ := sg_add (x := x) e2
  have r3 := e3 h
  rw [← e1] at s1 s2 s3
  refine ⟨s1, by rw [s2, kI64]; omega, s3, ?_⟩
  rw [s2, Int.toNat_natCast]
  unfold rgW
  rw [if_neg (by omega)]
  exact whole_tz _
theorem trunc_cut : ftruncI .f64 (fwholeI .zero x) = ftruncI .f64 x := by
  obtain ⟨c1, c2, c3, c4⟩ := cut_word hx h
  rw [trunc_word c1 c2, trunc_word hx h]
  have e : tz (mg .f64 (fwholeI .zero x)).toNat = tz (mg .f64 x).toNat := by
    have : tz (mg .f64 (fwholeI .zero x)).toNat = val Ieee.double (mg .f64 (fwholeI .zero x)).toNat / 2 ^ c1074 := rfl
    rw [this, c4, Nat.mul_div_cancel _ (Nat.two_pow_pos _)]
  rw [e]
  by_cases hk : kM .f64 ≤ x
  · rw [if_pos (c3.2 hk), if_pos hk]
  · rw [if_neg (fun hh => hk (c3.1 hh)), if_neg hk]
/-- how the cut float stands to a whole word -/
theorem cut_ford {y : Int} {b : Nat} (hy : 0 ≤ y ∧ y ≤ topF .f64) (fy : mg .f64 y < kI .f64) (hb : val Ieee.double (mg .f64 y).toNat = b * 2 ^ c1074) :
    fordI .f64 (fwholeI .zero x) y = if ftruncI .f64 x = (if kM .f64 ≤ y then -(b : Int) else b) then 0 else if ftruncI .f64 x < (if kM .f64 ≤ y then -(b : Int) else b) then 1 else 2 := by
  obtain ⟨c1, c2, c3, c4⟩ := cut_word hx h
  rw [ford_whole c1 hy c2 fy c4 hb, trunc_word hx h]
  by_cases hk : kM .f64 ≤ x
  · rw [if_pos (c3.2 hk), if_pos hk]
  · rw [if_neg (fun hh => hk (c3.1 hh)), if_neg hk]
end
theorem read63 : Ieee.double.read 4890909195324358656 = .number false 4503599627370496 11 := by decide
theorem sub_read {y m : Nat} (hr : Ieee.double.read y = .number false m 11) (hm : 4503599627370496 ≤ m) : Ieee.double.sub y 4890909195324358656 = some (rungOf Ieee.double (m - 4503599627370496) 11) := by
  unfold Format.sub
  rw [hr, read63]
  unfold Datum.opposite Datum.sum
  simp only [Option.map_some, Int.min_self, Int.sub_self, Int.toNat_zero]
  unfold signed
  simp only [Nat.shiftLeft_zero, Bool.not_false, if_true, Bool.false_eq_true, if_false, Bool.false_and]
  have e : ((m : Int) + -((4503599627370496 : Nat) : Int)) = ((m - 4503599627370496 : Nat) : Int) := by omega
  rw [e]
  have e2 : (if ((m - 4503599627370496 : Nat) : Int) = 0 then false else decide (((m - 4503599627370496 : Nat) : Int) < 0)) = false := by
    split
    · rfl
    · exact decide_eq_false (by omega)
  rw [e2, Int.natAbs_natCast]
  unfold Format.write
  simp only []
  rw [nearest_rung]
  unfold Format.word
  simp
theorem sub63 {x : Int} (hx : 0 ≤ x ∧ x ≤ topF .f64) (h : mg .f64 x < kI .f64) (ha : 9223372036854775808 ≤ ftruncI .f64 x) (hb : ftruncI .f64 x < 18446744073709551616) :
    0 ≤ farI .sub .f64 (fwholeI .zero x) 4890909195324358656 ∧ ftruncI .f64 (farI .sub .f64 (fwholeI .zero x) 4890909195324358656) = ftruncI .f64 x - 9223372036854775808 := by
  obtain ⟨c1, c2, c3, c4⟩ := cut_word hx h
  have tw := trunc_word hx h
  have ck : ¬ kM .f64 ≤ x := fun hk => by rw [if_pos hk] at tw; omega
  have ck' : ¬ kM .f64 ≤ fwholeI .zero x := fun hh => ck (c3.1 hh)
  rw [if_neg ck] at tw
  have em : mg .f64 (fwholeI .zero x) = fwholeI .zero x := by unfold mg; rw [if_neg ck']
  rw [em] at c2 c4
  rw [kI64] at c2
  obtain ⟨y, hy⟩ := Int.eq_ofNat_of_zero_le c1.1
  rw [hy] at c2 c4 ⊢
  rw [Int.toNat_natCast] at c4
  rw [tw] at ha hb ⊢
  generalize tz (mg .f64 x).toNat = a at *
  clear tw
  have pc : 0 < 2 ^ c1074 := Nat.two_pow_pos _
  have l1 : 4890909195324358656 ≤ y := by
    rcases Nat.lt_or_ge y 4890909195324358656 with hh | hh
    · exfalso
      have := val_lt Ieee.double hh
      rw [c4, val63] at this
      have := Nat.lt_of_mul_lt_mul_right this
      omega
    · exact hh
  have l2 : y < 4895412794951729152 := by
    rcases Nat.lt_or_ge y 4895412794951729152 with hh | hh
    · exact hh
    · exfalso
      have : val Ieee.double 4895412794951729152 ≤ val Ieee.double y := by
        rcases Nat.lt_or_eq_of_le hh with h3 | h3
        · exact Nat.le_of_lt (val_lt _ h3)
        · rw [h3]; exact Nat.le_refl _
      rw [c4, val64] at this
      have := Nat.le_of_mul_le_mul_right this pc
      omega
  have hp : placeOf Ieee.double y = 11 := by unfold placeOf; rw [dLP, dBI, if_neg (by omega)]; omega
  have hmag : 4503599627370496 ≤ magOf Ieee.double y ∧ magOf Ieee.double y < 9007199254740992 := by unfold magOf; rw [dBI, if_neg (by omega)]; omega
  have hread : Ieee.double.read y = .number false (magOf Ieee.double y) 11 := by
    have hm : y % Ieee.double.signWeight = y := by rw [dSW]; omega
    have hs : (y / Ieee.double.signWeight % 2 == 1) = false := by
      have : y / Ieee.double.signWeight = 0 := by rw [dSW]; omega
      rw [this]; rfl
    have := read_fin Ieee.double (w := y) (by rw [hm, dIR]; omega)
    rw [hm, hs, hp] at this; exact this
  have tu := (tz_up (r := y) (by rw [hp]; decide))
  rw [hp] at tu
  have ea : a = magOf Ieee.double y * 2048 := by
    have h1 := tu.2
    rw [c4] at h1
    have h2 := Nat.eq_of_mul_eq_mul_right pc h1
    rw [h2, tu.1]; rfl
  generalize magOf Ieee.double y = m at *
  have hsub := sub_read hread hmag.1
  obtain ⟨v1, v2⟩ := val_exact Ieee.double (n := m - 4503599627370496) (e := 11) (by rw [dBI]; omega) (by rw [dLP]; decide) (by rw [dLP, dBI, dIR]; decide)
  have hle := rung_le Ieee.double (m - 4503599627370496) 11
  rw [dIR] at hle
  have hfar : farI .sub .f64 (y : Int) 4890909195324358656 = ((rungOf Ieee.double (m - 4503599627370496) 11 : Nat) : Int) := by
    rw [farI_eq, Int.toNat_natCast]
    show (match Ieee.double.sub y 4890909195324358656 with | some r => (r : Int) | none => -1) = _
    rw [hsub]
  have hlt : rungOf Ieee.double (m - 4503599627370496) 11 < 9218868437227405312 := by
    by_cases hz : m - 4503599627370496 = 0
    · rw [hz]; unfold rungOf; simp
    · rw [if_neg hz, dIR] at v2; omega
  rw [hfar]
  generalize rungOf Ieee.double (m - 4503599627370496) 11 = R at *
  have hmg : mg .f64 (R : Int) = R := by unfold mg; rw [kM64, if_neg (by omega)]
  refine ⟨by omega, ?_⟩
  rw [trunc_word (by simp only [topF]; omega) (by rw [hmg, kI64]; omega), kM64, if_neg (by omega), hmg, Int.toNat_natCast]
  have hv : val Ieee.double R = ((m - 4503599627370496) * 2048) * 2 ^ c1074 := by
    rw [v1, dLP, Nat.mul_assoc, show 2048 = 2 ^ 11 by decide, ← Nat.pow_add]
    have := c1074_eq
    congr 2
  have hz : tz R = (m - 4503599627370496) * 2048 := by
    unfold tz; rw [hv, Nat.mul_div_cancel _ pc]
  rw [hz, ea]
  omega
end Go.Sx
