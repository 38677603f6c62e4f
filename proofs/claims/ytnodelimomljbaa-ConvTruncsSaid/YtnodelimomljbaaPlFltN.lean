/- Roots of floats of 32 bits, through those of 64 bits. No condition. -/
import Derived.Test.YtnodelimomljbaaPlFltM
import Derived.Test.YtnodelimomljbaaPlFltK
namespace Go.Sx
open Go Ieee
def c1074 : Nat := 1074
/-- a positive number's root, in the numbers themselves -/
theorem sqrt_exact {x : Int} (h0 : 0 < x) (hi : x < 9218868437227405312) : ∃ R : Nat, fsqrtI x = R ∧ 1 ≤ R ∧ R ≤ 9110782046170513408 ∧
    (∀ q, q < R → val Ieee.double q * val Ieee.double q ≤ val Ieee.double x.toNat * 2 ^ c1074) ∧ (∀ q, R < q → q ≤ 9218868437227405312 → val Ieee.double x.toNat * 2 ^ c1074 ≤ val Ieee.double q * val Ieee.double q) := by
  obtain ⟨ρ, rfl⟩ := Int.eq_ofNat_of_zero_le (Int.le_of_lt h0)
  simp only [Int.toNat_natCast]
  have hm : ρ % Ieee.double.signWeight = ρ := by rw [dSW]; omega
  have hs : (ρ / Ieee.double.signWeight % 2 == 1) = false := by
    have : ρ / Ieee.double.signWeight = 0 := by rw [dSW]; omega
    rw [this]; rfl
  have hr : Ieee.double.read ρ = .number false (magOf Ieee.double ρ) (placeOf Ieee.double ρ) := by
    have := read_fin Ieee.double (w := ρ) (by rw [hm, dIR]; omega)
    rw [hm, hs] at this; exact this
  have hmp : 0 < magOf Ieee.double ρ := by
    unfold magOf; rw [dBI]; split <;> omega
  have hml := mag_lt Ieee.double ρ
  have hfb : Ieee.double.fractionBits = 52 := rfl
  have hpl := place_ge Ieee.double ρ
  rw [dLP] at hpl
  have hpu : placeOf Ieee.double ρ ≤ 971 := by unfold placeOf; rw [dLP, dBI]; split <;> omega
  obtain ⟨n, w, e, hroot, r1, r2, ⟨k0, hn, hk0, hk1, hk2⟩, hw⟩ := root_rung Ieee.double hmp (by rw [hfb]; rw [dBI] at hml; omega) (placeOf Ieee.double ρ)
  rw [hfb] at hk1 hk2 hw hroot
  have hv : val Ieee.double ρ = magOf Ieee.double ρ * 2 ^ (placeOf Ieee.double ρ + 1074).toNat := by
    unfold val; rw [dLP]; congr 2
  generalize val Ieee.double ρ = v at *
  generalize magOf Ieee.double ρ = m at *
  generalize placeOf Ieee.double ρ = i at *
  obtain ⟨st, hst⟩ : ∃ st, (w * w != n).toNat = st := ⟨_, rfl⟩
  have hst1 : st ≤ 1 := by rw [← hst]; exact Bool.toNat_le _
  rw [hst] at hroot
  obtain ⟨k, hk⟩ : ∃ k : Nat, (k : Int) = e - 1 + 1074 := ⟨(e - 1 + 1074).toNat, by omega⟩
  obtain ⟨c1532, hcc⟩ : ∃ c : Nat, c = 1532 := ⟨_, rfl⟩
  obtain ⟨c2022, hc2⟩ : ∃ c : Nat, c = 2022 := ⟨_, rfl⟩
  have hkk : k ≤ c1532 := by omega
  have hR : rungOf Ieee.double ((2 * w + st) * 2 ^ k) Ieee.double.leastPlace = rungOf Ieee.double (2 * w + st) (e - 1) := by
    have := rung_scale Ieee.double (2 * w + st) k (e - 1)
    rw [show e - 1 - (k : Int) = -1074 by omega] at this
    rw [dLP]; exact this
  have hwu : 2 * w + st < 2 ^ 83 := by
    have h1 : n < 2 ^ 162 := by
      rw [hn]
      rw [dBI] at hml
      have h2 : m * 2 ^ k0 ≤ m * 2 ^ 109 := Nat.mul_le_mul_left _ (Nat.pow_le_pow_right (by decide) hk2)
      have h3 : m * 2 ^ 109 < 2 ^ 53 * 2 ^ 109 := Nat.mul_lt_mul_of_pos_right (by omega) (by decide)
      rw [← Nat.pow_add] at h3
      omega
    have h4 : w < 2 ^ 81 := by
      rcases Nat.lt_or_ge w (2 ^ 81) with h5 | h5
      · exact h5
      · have := Nat.mul_le_mul h5 h5
        rw [← Nat.pow_add] at this
        omega
    omega
  have hSu : (2 * w + st) * 2 ^ k ≤ val Ieee.double ((c2022 + 1) * Ieee.double.binade) := by
    rw [great_rung]
    have h1 : (2 * w + st) * 2 ^ k ≤ 2 ^ 83 * 2 ^ c1532 := Nat.mul_le_mul (Nat.le_of_lt hwu) (Nat.pow_le_pow_right (by decide) hkk)
    have h2 : (2 : Nat) ^ 83 * 2 ^ c1532 ≤ 2 ^ 52 * 2 ^ c2022 := by
      rw [← Nat.pow_add, ← Nat.pow_add]; exact Nat.pow_le_pow_right (by decide) (by omega)
    exact Nat.le_trans h1 h2
  have hgr : (c2022 + 1) * Ieee.double.binade = 9110782046170513408 := by rw [hc2, dBI]
  have hRu := rung_mono Ieee.double Ieee.double.leastPlace hSu
  have hq0 := rung_val Ieee.double (r := (c2022 + 1) * Ieee.double.binade) (by rw [hgr, dIR]; decide) 0
  rw [Nat.pow_zero, Nat.mul_one] at hq0
  rw [show Ieee.double.leastPlace - ((0 : Nat) : Int) = Ieee.double.leastPlace by omega] at hq0
  rw [hq0, hR, hgr] at hRu
  have hRl : 1 ≤ rungOf Ieee.double (2 * w + st) (e - 1) := by
    rw [← hR]
    have hv1 : val Ieee.double 1 = 1 := by rw [val_eq, dBI, if_pos (by decide)]
    have h1 : val Ieee.double 1 * 2 ^ 0 ≤ (2 * w + st) * 2 ^ k := by
      rw [hv1]
      have : 0 < 2 ^ k := Nat.two_pow_pos k
      have := Nat.mul_pos (show 0 < 2 * w + st by omega) this
      omega
    have := le_rung Ieee.double (r := 1) (by rw [dIR]; decide) h1
    rwa [show Ieee.double.leastPlace - ((0 : Nat) : Int) = Ieee.double.leastPlace by omega] at this
  obtain ⟨lo, hiR⟩ := near_root Ieee.double hst1 (by rw [hfb]; exact hw) hR (by rw [dIR]; omega)
  have hx : v * 2 ^ c1074 = 4 * n * (2 ^ k * 2 ^ k) := by
    have hc3 : c1074 = 1074 := by unfold c1074; rfl
    rw [hv, hn, Nat.mul_assoc, ← Nat.pow_add, show 4 * (m * 2 ^ k0) = m * 2 ^ (k0 + 2) by rw [Nat.pow_add, show (2 : Nat) ^ 2 = 4 by decide, Nat.mul_comm 4, Nat.mul_assoc], Nat.mul_assoc, ← Nat.pow_add, ← Nat.pow_add]
    congr 2; omega
  refine ⟨rungOf Ieee.double (2 * w + st) (e - 1), ?_, hRl, hRu, fun q hq => ?_, fun q hq hqi => ?_⟩
  · have e1 := sqrt_read hr (by rw [hfb]; exact hroot)
    unfold fsqrtI
    rw [Int.toNat_natCast]
    show (match Ieee.double.sqrt ρ with | some r => (r : Int) | none => -1) = _
    rw [e1]
  · rw [hx]
    have h1 := lo q hq
    have h2 := Nat.mul_le_mul h1 h1
    refine Nat.le_trans h2 ?_
    rw [Nat.mul_mul_mul_comm]
    refine Nat.mul_le_mul_right _ ?_
    rw [Nat.mul_mul_mul_comm]
    exact Nat.mul_le_mul_left _ r1
  · rw [hx]
    have h1 := hiR q hq (by rw [dIR]; exact hqi)
    have h2 := Nat.mul_le_mul h1 h1
    refine Nat.le_trans ?_ h2
    rw [Nat.mul_mul_mul_comm (2 * w + 2 * st)]
    refine Nat.mul_le_mul_right _ ?_
    have h3 : 2 * w + 2 * st = 2 * (w + st) := by omega
    rw [h3, Nat.mul_mul_mul_comm]
    refine Nat.mul_le_mul_left _ ?_
    by_cases hz : w * w = n
    · have : st = 0 := by rw [← hst, hz]; simp
      rw [this, Nat.add_zero]; omega
    · have : st = 1 := by
        rw [← hst]
        have : (w * w != n) = true := by simpa using hz
        rw [this]; rfl
      rw [this]; exact Nat.le_of_lt r2
theorem great_rung32 (j : Nat) : val Ieee.single ((j + 1) * Ieee.single.binade) = Ieee.single.binade * 2 ^ j := by
  have hb := binade_pos Ieee.single
  have h1 : ¬ (j + 1) * Ieee.single.binade < Ieee.single.binade := by
    have := Nat.le_mul_of_pos_left Ieee.single.binade (show 0 < j + 1 by omega)
    omega
  rw [val_eq, if_neg h1, Nat.mul_mod_left, Nat.mul_div_cancel _ hb, Nat.add_zero]
  rfl
/-- a rung of 64 bits, rounded to one of 32 -/
def dn (R : Nat) : Nat := rungOf Ieee.single (magOf Ieee.double R) (placeOf Ieee.double R)
theorem dn_val (R : Nat) : dn R = rungOf Ieee.single (val Ieee.double R) (-1074) := by
  have hg := place_ge Ieee.double R
  rw [dLP] at hg
  have h := rung_scale Ieee.single (magOf Ieee.double R) (placeOf Ieee.double R + 1074).toNat (placeOf Ieee.double R)
  unfold dn
  rw [← h]
  unfold val
  rw [dLP, show placeOf Ieee.double R - -1074 = placeOf Ieee.double R + 1074 by omega]
  congr 1; omega
theorem dn_mono {a b : Nat} (h : a ≤ b) : dn a ≤ dn b := by
  rw [dn_val, dn_val]
  refine rung_mono _ _ ?_
  rcases Nat.lt_or_eq_of_le h with h | h
  · exact Nat.le_of_lt (val_lt _ h)
  · rw [h]; exact Nat.le_refl _
theorem dn_up {r : Nat} (h : r < 2139095040) : dn (upR r) = r := downR h
/-- the numbers of a root of 32 bits: q's square on either side -/
theorem root32 {ρ : Nat} (h0 : 0 < ρ) (hi : ρ < 2139095040) : ∃ R : Nat, fsqrtI ((upR ρ : Nat) : Int) = R ∧ R ≤ 9110782046170513408 ∧ 1 ≤ dn R ∧ dn R ≤ 1602224128 ∧
    (∀ q, q < dn R → rungOf Ieee.single (val Ieee.single q * val Ieee.single q) (-298) ≤ ρ) ∧ (∀ q, dn R < q → q < 2139095040 → ρ ≤ rungOf Ieee.single (val Ieee.single q * val Ieee.single q) (-298)) := by
  obtain ⟨hv, hul⟩ := upR_val hi
  have hpos : 0 < val Ieee.single ρ := by
    have h1 : val Ieee.single 0 = 0 := by rw [val_eq, sBI]; rfl
    have := val_lt Ieee.single h0; omega
  have hup : 0 < upR ρ := by
    rcases Nat.eq_zero_or_pos (upR ρ) with h | h
    · rw [h] at hv
      have h1 : val Ieee.double 0 = 0 := by rw [val_eq, dBI]; rfl
      rw [h1] at hv
      have := Nat.mul_pos hpos (Nat.two_pow_pos c925); omega
    · exact h
  obtain ⟨R, hR, r1, r2, lo, hiR⟩ := sqrt_exact (x := ((upR ρ : Nat) : Int)) (by omega) (by omega)
  simp only [Int.toNat_natCast] at lo hiR
  -- in numbers of 32 bits
  have e1 : ∀ q, q < 2139095040 → val Ieee.double (upR q) * val Ieee.double (upR q) = (val Ieee.single q * val Ieee.single q) * (2 ^ c925 * 2 ^ c925) := fun q hq => by
    rw [(upR_val hq).1, Nat.mul_mul_mul_comm]
  have e2 : val Ieee.double (upR ρ) * 2 ^ c1074 = (val Ieee.single ρ * 2 ^ 149) * (2 ^ c925 * 2 ^ c925) := by
    have a1 : c925 = 925 := by unfold c925; rfl
    have a2 : c1074 = 1074 := by unfold c1074; rfl
    rw [hv, Nat.mul_assoc, Nat.mul_assoc, ← Nat.pow_add, ← Nat.pow_add, ← Nat.pow_add]
    congr 2
  have pc : 0 < 2 ^ c925 * 2 ^ c925 := Nat.mul_pos (Nat.two_pow_pos _) (Nat.two_pow_pos _)
  have lo' : ∀ q, q < 2139095040 → upR q < R → val Ieee.single q * val Ieee.single q ≤ val Ieee.single ρ * 2 ^ 149 := fun q hq hlt => by
    have := lo (upR q) hlt
    rw [e1 q hq, e2] at this
    exact Nat.le_of_mul_le_mul_right this pc
  have hi' : ∀ q, q < 2139095040 → R < upR q → val Ieee.single ρ * 2 ^ 149 ≤ val Ieee.single q * val Ieee.single q := fun q hq hlt => by
    have := hiR (upR q) hlt (upR_le q)
    rw [e1 q hq, e2] at this
    exact Nat.le_of_mul_le_mul_right this pc
  have back : rungOf Ieee.single (val Ieee.single ρ * 2 ^ 149) (-298) = ρ := by
    have := rung_val Ieee.single (r := ρ) (by rw [sIR]; omega) 149
    rw [sLP] at this
    exact this
  have n1 : 1 ≤ dn R := by
    rcases Nat.lt_or_ge R (upR 1) with h | h
    · exfalso
      have h1 := hi' 1 (by decide) h
      have h2 : val Ieee.single 1 = 1 := by rw [val_eq, sBI, if_pos (by decide)]
      rw [h2] at h1
      have h3 : 1 * 2 ^ 149 ≤ val Ieee.single ρ * 2 ^ 149 := Nat.mul_le_mul_right _ hpos
      have h4 : (1 : Nat) * 1 < 1 * 2 ^ 149 := by decide
      omega
    · have := dn_mono h
      rw [dn_up (by decide)] at this
      exact this
  have n2 : dn R ≤ 1602224128 := by
    rcases Nat.lt_or_ge (upR 1602224128) R with h | h
    · exfalso
      have h1 := lo' 1602224128 (by decide) h
      have h2 := great_rung32 190
      rw [sBI, show (190 + 1) * 8388608 = 1602224128 by decide] at h2
      have h3 := val_lt Ieee.single hi
      have h4 := great_rung32 254
      rw [sBI, show (254 + 1) * 8388608 = 2139095040 by decide] at h4
      rw [h2] at h1
      rw [h4] at h3
      have h5 := Nat.mul_lt_mul_of_pos_right h3 (show 0 < 2 ^ 149 by decide)
      have h6 : (8388608 * 2 ^ 254) * 2 ^ 149 = (8388608 * 2 ^ 190) * (8388608 * 2 ^ 190) := by
        rw [show 8388608 = 2 ^ 23 by decide]
      rw [h6] at h5
      omega
    · have := dn_mono h
      rw [dn_up (by decide)] at this
      exact this
  refine ⟨R, hR, r2, n1, n2, fun q hq => ?_, fun q hq hqi => ?_⟩
  · have h1 : upR q < R := by
      rcases Nat.lt_or_ge (upR q) R with h | h
      · exact h
      · have := dn_mono h
        rw [dn_up (by omega)] at this
        omega
    have := rung_mono Ieee.single (-298) (lo' q (by omega) h1)
    rwa [back] at this
  · have h1 : R < upR q := by
      rcases Nat.lt_or_ge R (upR q) with h | h
      · exact h
      · have := dn_mono h
        rw [dn_up hqi] at this
        omega
    have := rung_mono Ieee.single (-298) (hi' q hqi h1)
    rwa [back] at this
theorem mul_read32 {q m : Nat} {p : Int} (hr : Ieee.single.read q = .number false m p) : Ieee.single.mul q q = some (rungOf Ieee.single (m * m) (p + p)) := by
  unfold Format.mul
  rw [hr]
  unfold Datum.product
  simp only [Option.map_some]
  unfold Format.write
  simp only [bne_self_eq_false]
  rw [nearest_rung]
  unfold Format.word
  simp
theorem mul_sq32 {q : Nat} (hq : q < 2139095040) : farI .mul .f32 (q : Int) (q : Int) = ((rungOf Ieee.single (val Ieee.single q * val Ieee.single q) (-298) : Nat) : Int) := by
  have hm : q % Ieee.single.signWeight = q := by rw [sSW]; omega
  have hs : (q / Ieee.single.signWeight % 2 == 1) = false := by
    have : q / Ieee.single.signWeight = 0 := by rw [sSW]; omega
    rw [this]; rfl
  have hr : Ieee.single.read q = .number false (magOf Ieee.single q) (placeOf Ieee.single q) := by
    have := read_fin Ieee.single (w := q) (by rw [hm, sIR]; exact hq)
    rw [hm, hs] at this; exact this
  have hg := place_ge Ieee.single q
  rw [sLP] at hg
  have hsc := rung_scale Ieee.single (magOf Ieee.single q * magOf Ieee.single q) ((placeOf Ieee.single q + 149).toNat + (placeOf Ieee.single q + 149).toNat) (placeOf Ieee.single q + placeOf Ieee.single q)
  have hvv : val Ieee.single q * val Ieee.single q = magOf Ieee.single q * magOf Ieee.single q * 2 ^ ((placeOf Ieee.single q + 149).toNat + (placeOf Ieee.single q + 149).toNat) := by
    unfold val
    rw [sLP, show placeOf Ieee.single q - -149 = placeOf Ieee.single q + 149 by omega, Nat.pow_add, Nat.mul_mul_mul_comm]
  have hpl : placeOf Ieee.single q + placeOf Ieee.single q - (((placeOf Ieee.single q + 149).toNat + (placeOf Ieee.single q + 149).toNat : Nat) : Int) = -298 := by omega
  rw [hpl, ← hvv] at hsc
  rw [hsc]
  generalize magOf Ieee.single q = m at hr ⊢
  generalize placeOf Ieee.single q = p at hr ⊢
  have e : Ieee.single.mul q q = some (rungOf Ieee.single (m * m) (p + p)) := mul_read32 hr
  rw [farI_eq, Int.toNat_natCast]
  show (match Ieee.single.mul q q with | some r => (r : Int) | none => -1) = _
  rw [e]
/-- a positive float of 64 bits as one of 32 -/
theorem conv_dn {R : Nat} (hR : R < 9218868437227405312) (hd : dn R < 2139095040) : fconvI .f64 .f32 (R : Int) = (dn R : Int) := by
  have hm : R % Ieee.double.signWeight = R := by rw [dSW]; omega
  have hs : (R / Ieee.double.signWeight % 2 == 1) = false := by
    have : R / Ieee.double.signWeight = 0 := by rw [dSW]; omega
    rw [this]; rfl
  have hr : FloatKind.f64.decode (R : Int).toNat = .number false (magOf Ieee.double R) (placeOf Ieee.double R) := by
    have := read_fin Ieee.double (w := R) (by rw [hm, dIR]; exact hR)
    rw [hm, hs] at this
    rw [Int.toNat_natCast]; exact this
  have e : Ieee.single.nearest false (magOf Ieee.double R) (placeOf Ieee.double R) = Ieee.single.word false (dn R) := by
    rw [nearest_rung]; rfl
  have hi : (FloatKind.f32.decode (FloatKind.f32.encode (.number false (magOf Ieee.double R) (placeOf Ieee.double R)))).isInfinity = false := by
    show (Ieee.single.read (Ieee.single.nearest _ _ _)).isInfinity = false
    rw [e]; exact read_word_fin _ _ (by rw [sIR]; exact hd)
  unfold fconvI
  rw [hr]
  simp only
  rw [if_neg (by rw [hi]; simp)]
  show ((Ieee.single.nearest _ _ _ : Nat) : Int) = _
  rw [e, word32]
  simp
theorem sqrt32_pos {x : Int} (h0 : 0 < x) (hi : x < 2139095040) : ∃ r : Nat, fconvI .f64 .f32 (fsqrtI (fconvI .f32 .f64 x)) = r ∧ (∃ R : Nat, fsqrtI (fconvI .f32 .f64 x) = R) ∧ 1 ≤ r ∧ r ≤ 1602224128 ∧
    (∀ q, q < r → ((rungOf Ieee.single (val Ieee.single q * val Ieee.single q) (-298) : Nat) : Int) ≤ x) ∧ (∀ q, r < q → q < 2139095040 → x ≤ ((rungOf Ieee.single (val Ieee.single q * val Ieee.single q) (-298) : Nat) : Int)) := by
  obtain ⟨ρ, rfl⟩ := Int.eq_ofNat_of_zero_le (Int.le_of_lt h0)
  have hm : mg .f32 (ρ : Int) = ρ := by unfold mg; rw [kM32, if_neg (by omega)]
  have hc : fconvI .f32 .f64 (ρ : Int) = ((upR ρ : Nat) : Int) := by
    rw [conv_up (by simp only [topF]; omega) (by rw [hm, kI32]; omega)]
    unfold upW
    rw [hm, if_neg (by omega), Int.toNat_natCast]; omega
  obtain ⟨R, hR, r2, n1, n2, lo, hh⟩ := root32 (ρ := ρ) (by omega) (by omega)
  rw [hc, hR]
  refine ⟨dn R, conv_dn (by omega) (by omega), ⟨R, rfl⟩, n1, n2, fun q hq => ?_, fun q hq hqi => ?_⟩
  · have := lo q hq; omega
  · have := hh q hq hqi; omega
end Go.Sx
