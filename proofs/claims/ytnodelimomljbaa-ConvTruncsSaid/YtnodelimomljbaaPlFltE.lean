/- Whole parts of floats. No condition. -/
import Derived.Test.YtnodelimomljbaaPlFltD
import Derived.Test.YtnodelimomljbaaPlFltB
namespace Go.Sx
open Ieee

/-- whether one more is taken, of n / 2^d -/
def upBit (way : Toward) (neg : Bool) (n d : Nat) : Bool := match way with
  | .even => decide (2 ^ d < 2 * (n % 2 ^ d)) || (2 ^ d == 2 * (n % 2 ^ d) && n / 2 ^ d % 2 == 1)
  | .down => neg && n % 2 ^ d != 0
  | .up => !neg && n % 2 ^ d != 0
  | .zero => false
theorem cut_eq (way : Toward) (neg : Bool) (n d : Nat) : way.cut neg n d = n / 2 ^ d + (upBit way neg n d).toNat := by
  unfold Toward.cut
  have hlt : n < 2 ^ (n.log2 + 1) := Nat.lt_log2_self
  by_cases h : d ≤ n.log2 + 2
  · rw [Nat.min_eq_left h]
    simp only [Nat.one_shiftLeft]
    cases way <;> rfl
  · rw [Nat.min_eq_right (by omega)]
    simp only [Nat.one_shiftLeft]
    have e : 2 ^ (n.log2 + 2) = 2 * 2 ^ (n.log2 + 1) := by rw [Nat.pow_succ]; omega
    have h1 : n / 2 ^ (n.log2 + 2) = 0 := Nat.div_eq_of_lt (by omega)
    have h2 : n % 2 ^ (n.log2 + 2) = n := Nat.mod_eq_of_lt (by omega)
    have h3 : 2 ^ (n.log2 + 2) ≤ 2 ^ d := Nat.pow_le_pow_right (by decide) (by omega)
    have h4 : n / 2 ^ d = 0 := Nat.div_eq_of_lt (by omega)
    have h5 : n % 2 ^ d = n := Nat.mod_eq_of_lt (by omega)
    rw [h1, h2, h4]
    unfold upBit
    rw [h5, h4]
    congr 2
    cases way <;> simp
    omega
theorem upBit_rem {way : Toward} {neg : Bool} {n d : Nat} (h : upBit way neg n d = true) : n % 2 ^ d ≠ 0 := by
  have := Nat.two_pow_pos d
  unfold upBit at h
  cases way <;> simp at h
  · omega
  · exact h.2
  · exact h.2

/-- a number of few digits is as it is -/
theorem val_exact (f : Format) {n : Nat} {e : Int} (hn : n < 2 * f.binade) (he : f.leastPlace ≤ e) (hfit : ((e - f.leastPlace).toNat + 2) * f.binade ≤ f.infRung) :
    val f (rungOf f n e) = n * 2 ^ (e - f.leastPlace).toNat ∧ rungOf f n e < f.infRung + (if n = 0 then 1 else 0) := by
  have hb := binade_pos f
  have eb : f.binade = 2 ^ f.fractionBits := rfl
  by_cases h0 : n = 0
  · subst h0
    unfold rungOf
    simp [val_zero]
  · rw [if_neg h0]
    have hl1 : 2 ^ n.log2 ≤ n := Nat.log2_self_le h0
    have hl2 : n < 2 ^ (n.log2 + 1) := Nat.lt_log2_self
    have hlg : n.log2 ≤ f.fractionBits := by
      have := (Nat.log2_lt h0 (k := f.fractionBits + 1)).2 (by rw [Nat.pow_succ, ← eb]; omega)
      omega
    unfold rungOf
    rw [if_neg h0]
    by_cases hc : f.leastPlace ≤ e + n.log2 - f.fractionBits
    · have hL : lastP f n e = e + n.log2 - f.fractionBits := by unfold lastP; omega
      rw [hL]
      have hk : kept n e (e + n.log2 - f.fractionBits) = n * 2 ^ (f.fractionBits - n.log2) := by
        unfold kept
        rw [show (e + (n.log2 : Int) - f.fractionBits - e).toNat = 0 by omega, rne_zero, Nat.shiftLeft_eq]
        congr 2; omega
      rw [hk]
      have b1 : f.binade ≤ n * 2 ^ (f.fractionBits - n.log2) := by
        have : f.binade = 2 ^ n.log2 * 2 ^ (f.fractionBits - n.log2) := by rw [eb, ← Nat.pow_add]; congr 1; omega
        rw [this]; exact Nat.mul_le_mul_right _ hl1
      have b2 : n * 2 ^ (f.fractionBits - n.log2) < 2 * f.binade := by
        have : 2 * f.binade = 2 ^ (n.log2 + 1) * 2 ^ (f.fractionBits - n.log2) := by rw [eb, ← Nat.pow_succ', ← Nat.pow_add]; congr 1; omega
        rw [this]; exact Nat.mul_lt_mul_of_pos_right hl2 (Nat.two_pow_pos _)
      have hp : n * 2 ^ (f.fractionBits - n.log2) * 2 ^ (e + (n.log2 : Int) - f.fractionBits - f.leastPlace).toNat = n * 2 ^ (e - f.leastPlace).toNat := by
        rw [Nat.mul_assoc, ← Nat.pow_add]; congr 2; omega
      rw [← hp]
      have hq : (e + (n.log2 : Int) - f.fractionBits - f.leastPlace).toNat ≤ (e - f.leastPlace).toNat := by omega
      generalize (e + (n.log2 : Int) - f.fractionBits - f.leastPlace).toNat = p at *
      generalize (e - f.leastPlace).toNat = q at *
      generalize n * 2 ^ (f.fractionBits - n.log2) = z at *
      have h3 : (p + 2) * f.binade ≤ (q + 2) * f.binade := Nat.mul_le_mul_right _ (by omega)
      rw [Nat.add_mul] at h3
      have h4 : p * f.binade + z < f.infRung := by omega
      rw [Nat.min_eq_left (by omega)]
      refine ⟨?_, by omega⟩
      rw [val_eq, if_neg (by omega)]
      have e1 : (p * f.binade + z) / f.binade = p + 1 := by
        rw [Nat.add_comm, Nat.add_mul_div_right _ _ hb]
        have : z / f.binade = 1 := by rw [Nat.div_eq_iff hb]; omega
        omega
      have e2 : (p * f.binade + z) % f.binade = z - f.binade := by
        have := Nat.div_add_mod (p * f.binade + z) f.binade
        rw [e1, Nat.mul_comm, Nat.succ_mul] at this
        omega
      rw [e1, e2]
      congr 1
      omega
    · have hL : lastP f n e = f.leastPlace := by unfold lastP; omega
      rw [hL]
      have hk : kept n e f.leastPlace = n * 2 ^ (e - f.leastPlace).toNat := by
        unfold kept
        rw [show (f.leastPlace - e).toNat = 0 by omega, rne_zero, Nat.shiftLeft_eq]
      rw [hk, Int.sub_self, Int.toNat_zero, Nat.zero_mul, Nat.zero_add]
      have b2 : n * 2 ^ (e - f.leastPlace).toNat < f.binade := by
        have h1 : n * 2 ^ (e - f.leastPlace).toNat < 2 ^ (n.log2 + 1) * 2 ^ (e - f.leastPlace).toNat := Nat.mul_lt_mul_of_pos_right hl2 (Nat.two_pow_pos _)
        rw [← Nat.pow_add] at h1
        have h2 : 2 ^ (n.log2 + 1 + (e - f.leastPlace).toNat) ≤ 2 ^ f.fractionBits := Nat.pow_le_pow_right (by decide) (by omega)
        omega
      have h3 : 2 * f.binade ≤ f.infRung := by
        have : 2 * f.binade ≤ ((e - f.leastPlace).toNat + 2) * f.binade := Nat.mul_le_mul_right _ (by omega)
        omega
      rw [Nat.min_eq_left (by omega)]
      refine ⟨?_, by omega⟩
      rw [val_eq, if_pos b2]

/-- the whole part of a finite word, as a sign and a rung -/
def wholeR (f : Format) (way : Toward) (s : Bool) (r : Nat) : Nat := if 0 ≤ placeOf f r then r else rungOf f (magOf f r / 2 ^ (-placeOf f r).toNat + (upBit way s (magOf f r) (-placeOf f r).toNat).toNat) 0
theorem write_whole (f : Format) (way : Toward) (s : Bool) {r : Nat} (h : r ≤ f.infRung) : f.write ((Datum.number s (magOf f r) (placeOf f r)).integral way) = f.word s (wholeR f way s r) := by
  unfold Datum.integral wholeR
  show f.nearest _ _ _ = _
  rw [nearest_rung]
  congr 1
  by_cases hp : 0 ≤ placeOf f r
  · rw [if_pos hp, show (-placeOf f r).toNat = 0 by omega, cut_eq]
    have hu : upBit way s (magOf f r <<< (placeOf f r).toNat) 0 = false := by
      cases hh : upBit way s (magOf f r <<< (placeOf f r).toNat) 0 with
      | false => rfl
      | true => have := upBit_rem hh; simp [Nat.mod_one] at this
    rw [hu, Nat.shiftLeft_eq]
    simp only [Nat.pow_zero, Nat.div_one, Bool.toNat_false, Nat.add_zero]
    have := rung_scale f (magOf f r) (placeOf f r).toNat (placeOf f r)
    rw [show placeOf f r - ((placeOf f r).toNat : Nat) = 0 by omega] at this
    rw [this, rung_back f h]
  · rw [if_neg hp, show (placeOf f r).toNat = 0 by omega, cut_eq, Nat.shiftLeft_zero]

/-- the format holds the whole numbers of its digits -/
def Fits (f : Format) : Prop := 2 ≤ f.exponentBits ∧ f.leastPlace ≤ 0 ∧ ((0 - f.leastPlace).toNat + 2) * f.binade ≤ f.infRung
theorem fits_single : Fits Ieee.single := by unfold Fits; decide
theorem fits_double : Fits Ieee.double := by unfold Fits; decide
theorem mag_lt (f : Format) (r : Nat) : magOf f r < 2 * f.binade := by
  unfold magOf
  have := binade_pos f
  have := Nat.mod_lt r this
  split <;> omega
section
variable {f : Format} (hf : Fits f) {way : Toward} {s : Bool} {r : Nat}
include hf
omit hf in
theorem whole_small (h : ¬ 0 ≤ placeOf f r) : magOf f r / 2 ^ (-placeOf f r).toNat + (upBit way s (magOf f r) (-placeOf f r).toNat).toNat ≤ f.binade := by
  have h1 := mag_lt f r
  have h2 : magOf f r / 2 ^ (-placeOf f r).toNat ≤ magOf f r / 2 := by
    have : 2 ^ 1 ≤ 2 ^ (-placeOf f r).toNat := Nat.pow_le_pow_right (by decide) (by omega)
    exact Nat.div_le_div_left this (by decide)
  have h3 : (upBit way s (magOf f r) (-placeOf f r).toNat).toNat ≤ 1 := Bool.toNat_le _
  omega
theorem whole_val (h : ¬ 0 ≤ placeOf f r) : val f (wholeR f way s r) = (magOf f r / 2 ^ (-placeOf f r).toNat + (upBit way s (magOf f r) (-placeOf f r).toNat).toNat) * 2 ^ (0 - f.leastPlace).toNat ∧ wholeR f way s r < f.infRung := by
  have hb := binade_pos f
  have h1 := whole_small (way := way) (s := s) h
  unfold wholeR
  rw [if_neg h]
  obtain ⟨v1, v2⟩ := val_exact f (n := magOf f r / 2 ^ (-placeOf f r).toNat + (upBit way s (magOf f r) (-placeOf f r).toNat).toNat) (e := 0) (by omega) hf.2.1 hf.2.2
  refine ⟨v1, ?_⟩
  by_cases h0 : magOf f r / 2 ^ (-placeOf f r).toNat + (upBit way s (magOf f r) (-placeOf f r).toNat).toNat = 0
  · rw [h0]; unfold rungOf; simp
    have := binade_le f hf.1; omega
  · rw [if_neg h0] at v2; omega
theorem whole_lt (h : r < f.infRung) : wholeR f way s r < f.infRung := by
  by_cases hp : 0 ≤ placeOf f r
  · unfold wholeR; rw [if_pos hp]; exact h
  · exact (whole_val hf hp).2
/-- once whole, always -/
theorem whole_again (way' : Toward) (s' : Bool) : wholeR f way' s' (wholeR f way s r) = wholeR f way s r := by
  by_cases hp : 0 ≤ placeOf f r
  · have : wholeR f way s r = r := by unfold wholeR; rw [if_pos hp]
    rw [this]; unfold wholeR; rw [if_pos hp]
  · obtain ⟨v1, v2⟩ := whole_val hf (way := way) (s := s) hp
    generalize hq : magOf f r / 2 ^ (-placeOf f r).toNat + (upBit way s (magOf f r) (-placeOf f r).toNat).toNat = q at v1
    have hw : wholeR f way s r = rungOf f q 0 := by unfold wholeR; rw [if_neg hp, hq]
    generalize hr : wholeR f way s r = y at *
    by_cases hy : 0 ≤ placeOf f y
    · unfold wholeR; rw [if_pos hy]
    · have hg := place_ge f y
      have hm : magOf f y = q * 2 ^ (-placeOf f y).toNat := by
        unfold val at v1
        have e : 2 ^ (0 - f.leastPlace).toNat = 2 ^ (-placeOf f y).toNat * 2 ^ (placeOf f y - f.leastPlace).toNat := by rw [← Nat.pow_add]; congr 1; omega
        rw [e, ← Nat.mul_assoc] at v1
        exact Nat.mul_right_cancel (Nat.two_pow_pos _) v1
      unfold wholeR
      rw [if_neg hy]
      have hu : upBit way' s' (magOf f y) (-placeOf f y).toNat = false := by
        cases hh : upBit way' s' (magOf f y) (-placeOf f y).toNat with
        | false => rfl
        | true => have := upBit_rem hh; rw [hm, Nat.mul_mod_left] at this; exact absurd rfl this
      rw [hu, hm, Nat.mul_div_cancel _ (Nat.two_pow_pos _)]
      simp only [Bool.toNat_false, Nat.add_zero]
      exact hw.symm
omit hf in
/-- below and above -/
theorem whole_le (h : r < f.infRung) (hu : upBit way s (magOf f r) (-placeOf f r).toNat = false) : wholeR f way s r ≤ r := by
  by_cases hp : 0 ≤ placeOf f r
  · unfold wholeR; rw [if_pos hp]; exact Nat.le_refl _
  · unfold wholeR
    rw [if_neg hp, hu]
    simp only [Bool.toNat_false, Nat.add_zero]
    have h1 := rung_scale f (magOf f r / 2 ^ (-placeOf f r).toNat) (-placeOf f r).toNat 0
    rw [← h1, show (0 : Int) - ((-placeOf f r).toNat : Nat) = placeOf f r by omega]
    have h2 := rung_mono f (placeOf f r) (Nat.div_mul_le_self (magOf f r) (2 ^ (-placeOf f r).toNat))
    rwa [rung_back f (Nat.le_of_lt h)] at h2
omit hf in
theorem whole_ge (h : r < f.infRung) (hu : upBit way s (magOf f r) (-placeOf f r).toNat = true ∨ magOf f r % 2 ^ (-placeOf f r).toNat = 0) : r ≤ wholeR f way s r := by
  by_cases hp : 0 ≤ placeOf f r
  · unfold wholeR; rw [if_pos hp]; exact Nat.le_refl _
  · unfold wholeR
    rw [if_neg hp]
    have hpos := Nat.two_pow_pos (-placeOf f r).toNat
    have hle : magOf f r ≤ (magOf f r / 2 ^ (-placeOf f r).toNat + (upBit way s (magOf f r) (-placeOf f r).toNat).toNat) * 2 ^ (-placeOf f r).toNat := by
      have e := Nat.div_add_mod (magOf f r) (2 ^ (-placeOf f r).toNat)
      have hm := Nat.mod_lt (magOf f r) hpos
      rw [Nat.add_mul, Nat.mul_comm]
      rcases hu with hu | hu
      · rw [hu]; simp only [Bool.toNat_true, Nat.one_mul]; omega
      · omega
    have h1 := rung_scale f (magOf f r / 2 ^ (-placeOf f r).toNat + (upBit way s (magOf f r) (-placeOf f r).toNat).toNat) (-placeOf f r).toNat 0
    rw [← h1, show (0 : Int) - ((-placeOf f r).toNat : Nat) = placeOf f r by omega]
    have h2 := rung_mono f (placeOf f r) hle
    rwa [rung_back f (Nat.le_of_lt h)] at h2
omit hf in
/-- one of two ways is taken -/
theorem whole_same {way' : Toward} {s' : Bool} (h : upBit way s (magOf f r) (-placeOf f r).toNat = upBit way' s' (magOf f r) (-placeOf f r).toNat) : wholeR f way s r = wholeR f way' s' r := by
  unfold wholeR; rw [h]
end
end Go.Sx
