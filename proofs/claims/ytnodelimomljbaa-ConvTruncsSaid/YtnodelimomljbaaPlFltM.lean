/- Roots: the square of the next lower float is not above, that of the next greater not below. No condition. -/
import Derived.Test.YtnodelimomljbaaPlFltI
namespace Go.Sx
open Go Ieee

theorem rootFrom_ok (n : Nat) : ∀ (t r : Nat), 2 ^ t ∣ r → r * r ≤ n → n < (r + 2 ^ t) * (r + 2 ^ t) → Datum.rootFrom n t r * Datum.rootFrom n t r ≤ n ∧ n < (Datum.rootFrom n t r + 1) * (Datum.rootFrom n t r + 1)
  | 0, r, _, h1, h2 => ⟨h1, by simpa [Datum.rootFrom] using h2⟩
  | t + 1, r, hd, h1, h2 => by
    unfold Datum.rootFrom
    simp only [Nat.one_shiftLeft]
    have hd' : 2 ^ t ∣ r := Nat.dvd_trans (Nat.pow_dvd_pow 2 (Nat.le_succ t)) hd
    have e : 2 ^ (t + 1) = 2 ^ t + 2 ^ t := by rw [Nat.pow_succ]; omega
    by_cases h : (r + 2 ^ t) * (r + 2 ^ t) ≤ n
    · rw [if_pos h]
      exact rootFrom_ok n t (r + 2 ^ t) (Nat.dvd_add hd' (Nat.dvd_refl _)) h (by rw [Nat.add_assoc, ← e]; exact h2)
    · rw [if_neg h]
      exact rootFrom_ok n t r hd' h1 (by omega)
theorem root_ok (n : Nat) : Datum.rootFrom n (n.log2 / 2 + 1) 0 * Datum.rootFrom n (n.log2 / 2 + 1) 0 ≤ n ∧ n < (Datum.rootFrom n (n.log2 / 2 + 1) 0 + 1) * (Datum.rootFrom n (n.log2 / 2 + 1) 0 + 1) := by
  refine rootFrom_ok n _ 0 ⟨0, by simp⟩ (by omega) ?_
  rw [Nat.zero_add, ← Nat.pow_add]
  have h : n < 2 ^ (n.log2 + 1) := Nat.lt_log2_self
  exact Nat.lt_of_lt_of_le h (Nat.pow_le_pow_right (by decide) (by omega))
/-- what a number's root is: the rung of twice the whole root, with a digit that tells of a rest -/
theorem root_rung (f : Format) {m : Nat} (hm : 0 < m) (hb : m < 2 ^ (f.fractionBits + 1)) (i : Int) : ∃ (n w : Nat) (e : Int), (Datum.number false m i).root (f.fractionBits + 2) = some (.number false (2 * w + (w * w != n).toNat) (e - 1)) ∧
    w * w ≤ n ∧ n < (w + 1) * (w + 1) ∧ (∃ k : Nat, n = m * 2 ^ k ∧ (k : Int) = i - 2 * e ∧ f.fractionBits + 2 ≤ k + 0 ∧ k ≤ 2 * f.fractionBits + 5) ∧ 2 ^ (f.fractionBits + 2) ≤ w := by
  have h0 : m ≠ 0 := by omega
  have hl : m.log2 ≤ f.fractionBits := by
    have := (Nat.log2_lt h0).2 hb; omega
  generalize hmo : 2 * (f.fractionBits + 2) - m.log2 + ((i - (2 * (f.fractionBits + 2) - m.log2 : Nat)) % 2).toNat = more
  have hmore : 2 * (f.fractionBits + 2) - m.log2 ≤ more ∧ more ≤ 2 * (f.fractionBits + 2) - m.log2 + 1 := by omega
  have heven : (i - (more : Int)) % 2 = 0 := by omega
  refine ⟨m * 2 ^ more, Datum.rootFrom (m * 2 ^ more) ((m * 2 ^ more).log2 / 2 + 1) 0, (i - more) / 2, ?_, (root_ok _).1, (root_ok _).2, ⟨more, rfl, by omega, by omega, by omega⟩, ?_⟩
  · unfold Datum.root
    simp only [h0, if_false, Bool.false_eq_true]
    rw [hmo, Nat.shiftLeft_eq]
  · obtain ⟨_, h2⟩ := root_ok (m * 2 ^ more)
    generalize Datum.rootFrom (m * 2 ^ more) ((m * 2 ^ more).log2 / 2 + 1) 0 = w at *
    rcases Nat.lt_or_ge w (2 ^ (f.fractionBits + 2)) with hlt | hge
    · exfalso
      have h3 : (w + 1) * (w + 1) ≤ 2 ^ (f.fractionBits + 2) * 2 ^ (f.fractionBits + 2) := Nat.mul_le_mul hlt hlt
      have h4 : 2 ^ m.log2 * 2 ^ (2 * (f.fractionBits + 2) - m.log2) ≤ m * 2 ^ more := Nat.mul_le_mul (Nat.log2_self_le h0) (Nat.pow_le_pow_right (by decide) hmore.1)
      rw [← Nat.pow_add] at h3 h4
      rw [show m.log2 + (2 * (f.fractionBits + 2) - m.log2) = f.fractionBits + 2 + (f.fractionBits + 2) by omega] at h4
      omega
    · exact hge
/-- a great value is a multiple of its last digit's -/
theorem val_mult (f : Format) {r k : Nat} (h : 2 ^ (f.fractionBits + 1) * 2 ^ k ≤ val f r) : 2 ^ (k + 1) ∣ val f r ∨ 2 ^ k * 2 ^ (f.fractionBits + 1) = val f r ∨ 2 ^ k ∣ val f r := by
  right; right
  have hm := mag_lt f r
  have eb : 2 * f.binade = 2 ^ (f.fractionBits + 1) := by rw [Nat.pow_succ]; show 2 * 2 ^ f.fractionBits = _; omega
  unfold val at h ⊢
  generalize (placeOf f r - f.leastPlace).toNat = p at *
  rcases Nat.lt_or_ge p k with hp | hp
  · exfalso
    have h1 : magOf f r * 2 ^ p < 2 ^ (f.fractionBits + 1) * 2 ^ p := Nat.mul_lt_mul_of_pos_right (by omega) (Nat.two_pow_pos _)
    have h2 : 2 ^ (f.fractionBits + 1) * 2 ^ p ≤ 2 ^ (f.fractionBits + 1) * 2 ^ k := Nat.mul_le_mul_left _ (Nat.pow_le_pow_right (by decide) (Nat.le_of_lt hp))
    omega
  · exact Nat.dvd_trans (Nat.pow_dvd_pow 2 hp) ⟨magOf f r, Nat.mul_comm _ _⟩
/-- the neighbours of the root's rung, in units of the least place: V is the lower one's value, U the greater one's -/
theorem near_root (f : Format) {w st k R : Nat} (hst : st ≤ 1) (hw : 2 ^ (f.fractionBits + 2) ≤ w) (hR : rungOf f ((2 * w + st) * 2 ^ k) f.leastPlace = R) (hi : R < f.infRung) :
    (∀ q, q < R → val f q ≤ (2 * w) * 2 ^ k) ∧ (∀ q, R < q → q ≤ f.infRung → (2 * w + 2 * st) * 2 ^ k ≤ val f q) := by
  have hk : 0 < 2 ^ k := Nat.two_pow_pos k
  have big : ∀ q, (2 * w) * 2 ^ k ≤ val f q → 2 ^ (k + 1) ∣ val f q := fun q hq => by
    have h1 : 2 ^ (f.fractionBits + 1) * 2 ^ (k + 1) ≤ val f q := by
      have e : 2 ^ (f.fractionBits + 1) * 2 ^ (k + 1) = 2 ^ (f.fractionBits + 2) * 2 ^ k := by rw [← Nat.pow_add, ← Nat.pow_add]; congr 1; omega
      rw [e]
      exact Nat.le_trans (Nat.mul_le_mul_right _ (by omega)) hq
    rcases val_mult f h1 with h | h | h
    · exact Nat.dvd_trans (Nat.pow_dvd_pow 2 (Nat.le_succ _)) h
    · exact ⟨2 ^ (f.fractionBits + 1), h.symm⟩
    · exact h
  have e2 : 2 ^ (k + 1) = 2 * 2 ^ k := Nat.pow_succ'
  have rv : ∀ q, q ≤ f.infRung → rungOf f (val f q) f.leastPlace = q := fun q hq => by
    have := rung_val f hq 0; simpa using this
  refine ⟨fun q hq => ?_, fun q hq hqi => ?_⟩
  · rcases Nat.lt_or_ge ((2 * w) * 2 ^ k) (val f q) with h | h
    · exfalso
      obtain ⟨c, hc⟩ := big q (Nat.le_of_lt h)
      have h1 : (2 * w + st) * 2 ^ k ≤ val f q := by
        rw [hc, e2] at h ⊢
        have h2 : w < c := by
          rcases Nat.lt_or_ge w c with h3 | h3
          · exact h3
          · have : 2 * 2 ^ k * c ≤ 2 * 2 ^ k * w := Nat.mul_le_mul_left _ h3
            rw [Nat.mul_right_comm] at this
            have e3 : 2 * w * 2 ^ k = 2 * 2 ^ k * w := Nat.mul_right_comm _ _ _
            have e4 : 2 * c * 2 ^ k = 2 * 2 ^ k * c := Nat.mul_right_comm _ _ _
            omega
        have h4 : (2 * w + st) * 2 ^ k ≤ (2 * c) * 2 ^ k := Nat.mul_le_mul_right _ (by omega)
        have e4 : 2 * c * 2 ^ k = 2 * 2 ^ k * c := Nat.mul_right_comm _ _ _
        omega
      have h2 := rung_mono f f.leastPlace h1
      rw [hR, rv q (by omega)] at h2
      omega
    · exact h
  · rcases Nat.lt_or_ge (val f q) ((2 * w + 2 * st) * 2 ^ k) with h | h
    · exfalso
      have h1 : val f q ≤ (2 * w + st) * 2 ^ k := by
        rcases Nat.lt_or_ge (val f q) ((2 * w) * 2 ^ k) with h3 | h3
        · exact Nat.le_trans (Nat.le_of_lt h3) (Nat.mul_le_mul_right _ (by omega))
        · obtain ⟨c, hc⟩ := big q h3
          rw [hc, e2] at h ⊢
          have e4 : 2 * c * 2 ^ k = 2 * 2 ^ k * c := Nat.mul_right_comm _ _ _
          have h2 : 2 * c < 2 * w + 2 * st := by
            rcases Nat.lt_or_ge (2 * c) (2 * w + 2 * st) with h5 | h5
            · exact h5
            · have := Nat.mul_le_mul_right (2 ^ k) h5; omega
          have h4 : (2 * c) * 2 ^ k ≤ (2 * w + st) * 2 ^ k := Nat.mul_le_mul_right _ (by omega)
          omega
      have h2 := rung_mono f f.leastPlace h1
      rw [hR, rv q hqi] at h2
      omega
    · exact h
theorem mul_read {q m : Nat} {p : Int} (hr : Ieee.double.read q = .number false m p) : Ieee.double.mul q q = some (rungOf Ieee.double (m * m) (p + p)) := by
  unfold Format.mul
  rw [hr]
  unfold Datum.product
  simp only [Option.map_some]
  unfold Format.write
  simp only [bne_self_eq_false]
  rw [nearest_rung]
  unfold Format.word
  simp
theorem mul_sq {q : Nat} (hq : q < 9218868437227405312) : farI .mul .f64 (q : Int) (q : Int) = ((rungOf Ieee.double (magOf Ieee.double q * magOf Ieee.double q) (placeOf Ieee.double q + placeOf Ieee.double q) : Nat) : Int) := by
  have hm : q % Ieee.double.signWeight = q := by rw [dSW]; omega
  have hs : (q / Ieee.double.signWeight % 2 == 1) = false := by
    have : q / Ieee.double.signWeight = 0 := by rw [dSW]; omega
    rw [this]; rfl
  have hr : Ieee.double.read q = .number false (magOf Ieee.double q) (placeOf Ieee.double q) := by
    have := read_fin Ieee.double (w := q) (by rw [hm, dIR]; exact hq)
    rw [hm, hs] at this; exact this
  generalize magOf Ieee.double q = m at hr ⊢
  generalize placeOf Ieee.double q = p at hr ⊢
  have e : Ieee.double.mul q q = some (rungOf Ieee.double (m * m) (p + p)) := mul_read hr
  rw [farI_eq, Int.toNat_natCast]
  show (match Ieee.double.mul q q with | some r => (r : Int) | none => -1) = _
  rw [e]
theorem sq_rung {q : Nat} : rungOf Ieee.double (magOf Ieee.double q * magOf Ieee.double q) (placeOf Ieee.double q + placeOf Ieee.double q) = rungOf Ieee.double (val Ieee.double q * val Ieee.double q) (-2148) := by
  have hg := place_ge Ieee.double q
  rw [dLP] at hg
  have h := rung_scale Ieee.double (magOf Ieee.double q * magOf Ieee.double q) ((placeOf Ieee.double q + 1074).toNat + (placeOf Ieee.double q + 1074).toNat) (placeOf Ieee.double q + placeOf Ieee.double q)
  rw [← h]
  unfold val
  rw [dLP, show placeOf Ieee.double q - -1074 = placeOf Ieee.double q + 1074 by omega, Nat.pow_add]
  congr 1
  · generalize 2 ^ (placeOf Ieee.double q + 1074).toNat = c
    rw [Nat.mul_mul_mul_comm]
  · omega
theorem sqrt_read {x m a : Nat} {i b : Int} (hr : Ieee.double.read x = .number false m i) (h : (Datum.number false m i).root (Ieee.double.fractionBits + 2) = some (.number false a b)) : Ieee.double.sqrt x = some (rungOf Ieee.double a b) := by
  unfold Format.sqrt
  rw [hr, h]
  simp only [Option.map_some]
  unfold Format.write
  simp only []
  rw [nearest_rung]
  unfold Format.word
  simp
theorem great_rung (j : Nat) : val Ieee.double ((j + 1) * Ieee.double.binade) = Ieee.double.binade * 2 ^ j := by
  have hb := binade_pos Ieee.double
  have h1 : ¬ (j + 1) * Ieee.double.binade < Ieee.double.binade := by
    have := Nat.le_mul_of_pos_left Ieee.double.binade (show 0 < j + 1 by omega)
    omega
  rw [val_eq, if_neg h1, Nat.mul_mod_left, Nat.mul_div_cancel _ hb, Nat.add_zero]
  rfl
/-- a positive number's root -/
theorem sqrt_word {x : Int} (h0 : 0 < x) (hi : x < 9218868437227405312) : ∃ R : Nat, fsqrtI x = R ∧ 1 ≤ R ∧ R ≤ 9110782046170513408 ∧
    (∀ q, q < R → rungOf Ieee.double (val Ieee.double q * val Ieee.double q) (-2148) ≤ x.toNat) ∧ (∀ q, R < q → q ≤ 9218868437227405312 → x.toNat ≤ rungOf Ieee.double (val Ieee.double q * val Ieee.double q) (-2148)) := by
  obtain ⟨ρ, rfl⟩ := Int.eq_ofNat_of_zero_le (Int.le_of_lt h0)
  have hm : ρ % Ieee.double.signWeight = ρ := by rw [dSW]; omega
  have hs : (ρ / Ieee.double.signWeight % 2 == 1) = false := by
    have : ρ / Ieee.double.signWeight = 0 := by rw [dSW]; omega
    rw [this]; rfl
  have hr : Ieee.double.read ρ = .number false (magOf Ieee.double ρ) (placeOf Ieee.double ρ) := by
    have := read_fin Ieee.double (w := ρ) (by rw [hm, dIR]; omega)
    rw [hm, hs] at this; exact this
  have hmp : 0 < magOf Ieee.double ρ := by
    unfold magOf; rw [dBI]; split <;> omega
  have hml := mag_lt Ieee.double ρ
  have hfb : Ieee.double.fractionBits = 52 := rfl
  have hpl := place_ge Ieee.double ρ
  rw [dLP] at hpl
  have hpu : placeOf Ieee.double ρ ≤ 971 := by unfold placeOf; rw [dLP, dBI]; split <;> omega
  obtain ⟨n, w, e, hroot, r1, r2, ⟨k0, hn, hk0, hk1, hk2⟩, hw⟩ := root_rung Ieee.double hmp (by rw [hfb]; rw [dBI] at hml; omega) (placeOf Ieee.double ρ)
  rw [hfb] at hk1 hk2 hw hroot
  have hback := rung_back Ieee.double (r := ρ) (by rw [dIR]; omega)
  generalize magOf Ieee.double ρ = m at *
  generalize placeOf Ieee.double ρ = i at *
  obtain ⟨st, hst⟩ : ∃ st, (w * w != n).toNat = st := ⟨_, rfl⟩
  have hst1 : st ≤ 1 := by rw [← hst]; exact Bool.toNat_le _
  rw [hst] at hroot
  obtain ⟨k, hk⟩ : ∃ k : Nat, (k : Int) = e - 1 + 1074 := ⟨(e - 1 + 1074).toNat, by omega⟩
  obtain ⟨c1532, hcc⟩ : ∃ c : Nat, c = 1532 := ⟨_, rfl⟩
  obtain ⟨c2022, hc2⟩ : ∃ c : Nat, c = 2022 := ⟨_, rfl⟩
  have hkk : k ≤ c1532 := by omega
  have hR : rungOf Ieee.double ((2 * w + st) * 2 ^ k) Ieee.double.leastPlace = rungOf Ieee.double (2 * w + st) (e - 1) := by
    have := rung_scale Ieee.double (2 * w + st) k (e - 1)
    rw [show e - 1 - (k : Int) = -1074 by omega] at this
    rw [dLP]; exact this
  have hwu : 2 * w + st < 2 ^ 83 := by
    have h1 : n < 2 ^ 162 := by
      rw [hn]
      rw [dBI] at hml
      have h2 : m * 2 ^ k0 ≤ m * 2 ^ 109 := Nat.mul_le_mul_left _ (Nat.pow_le_pow_right (by decide) hk2)
      have h3 : m * 2 ^ 109 < 2 ^ 53 * 2 ^ 109 := Nat.mul_lt_mul_of_pos_right (by omega) (by decide)
      rw [← Nat.pow_add] at h3
      omega
    have h4 : w < 2 ^ 81 := by
      rcases Nat.lt_or_ge w (2 ^ 81) with h5 | h5
      · exact h5
      · have := Nat.mul_le_mul h5 h5
        rw [← Nat.pow_add] at this
        omega
    omega
  have hSu : (2 * w + st) * 2 ^ k ≤ val Ieee.double ((c2022 + 1) * Ieee.double.binade) := by
    rw [great_rung]
    have h1 : (2 * w + st) * 2 ^ k ≤ 2 ^ 83 * 2 ^ c1532 := Nat.mul_le_mul (Nat.le_of_lt hwu) (Nat.pow_le_pow_right (by decide) hkk)
    have h2 : (2 : Nat) ^ 83 * 2 ^ c1532 ≤ 2 ^ 52 * 2 ^ c2022 := by
      rw [← Nat.pow_add, ← Nat.pow_add]; exact Nat.pow_le_pow_right (by decide) (by omega)
    exact Nat.le_trans h1 h2
  have hgr : (c2022 + 1) * Ieee.double.binade = 9110782046170513408 := by rw [hc2, dBI]
  have hRu := rung_mono Ieee.double Ieee.double.leastPlace hSu
  have hq0 := rung_val Ieee.double (r := (c2022 + 1) * Ieee.double.binade) (by rw [hgr, dIR]; decide) 0
  rw [Nat.pow_zero, Nat.mul_one] at hq0
  rw [show Ieee.double.leastPlace - ((0 : Nat) : Int) = Ieee.double.leastPlace by omega] at hq0
  rw [hq0, hR, hgr] at hRu
  have hRl : 1 ≤ rungOf Ieee.double (2 * w + st) (e - 1) := by
    rw [← hR]
    have hv1 : val Ieee.double 1 = 1 := by rw [val_eq, dBI, if_pos (by decide)]
    have h1 : val Ieee.double 1 * 2 ^ 0 ≤ (2 * w + st) * 2 ^ k := by
      rw [hv1]
      have : 0 < 2 ^ k := Nat.two_pow_pos k
      have := Nat.mul_pos (show 0 < 2 * w + st by omega) this
      omega
    have := le_rung Ieee.double (r := 1) (by rw [dIR]; decide) h1
    rwa [show Ieee.double.leastPlace - ((0 : Nat) : Int) = Ieee.double.leastPlace by omega] at this
  obtain ⟨lo, hiR⟩ := near_root Ieee.double hst1 (by rw [hfb]; exact hw) hR (by rw [dIR]; omega)
  have hx : ρ = rungOf Ieee.double (4 * n * (2 ^ k * 2 ^ k)) (-2148) := by
    have h1 := rung_scale Ieee.double m (k0 + 2 + k + k) i
    rw [hback] at h1
    rw [← h1]
    congr 1
    · rw [hn, Nat.pow_add, Nat.pow_add, Nat.pow_add, show (2 : Nat) ^ 2 = 4 by decide]
      generalize 2 ^ k = c
      generalize 2 ^ k0 = d
      rw [Nat.mul_comm 4, Nat.mul_assoc, Nat.mul_assoc, Nat.mul_assoc, Nat.mul_assoc]
    · omega
  refine ⟨rungOf Ieee.double (2 * w + st) (e - 1), ?_, hRl, hRu, fun q hq => ?_, fun q hq hqi => ?_⟩
  · have e1 := sqrt_read hr (by rw [hfb]; exact hroot)
    unfold fsqrtI
    rw [Int.toNat_natCast]
    show (match Ieee.double.sqrt ρ with | some r => (r : Int) | none => -1) = _
    rw [e1]
  · rw [Int.toNat_natCast, hx]
    refine rung_mono _ _ ?_
    have h1 := lo q hq
    have h2 := Nat.mul_le_mul h1 h1
    refine Nat.le_trans h2 ?_
    rw [Nat.mul_mul_mul_comm]
    refine Nat.mul_le_mul_right _ ?_
    rw [Nat.mul_mul_mul_comm]
    exact Nat.mul_le_mul_left _ r1
  · rw [Int.toNat_natCast, hx]
    refine rung_mono _ _ ?_
    have h1 := hiR q hq (by rw [dIR]; exact hqi)
    have h2 := Nat.mul_le_mul h1 h1
    refine Nat.le_trans ?_ h2
    rw [Nat.mul_mul_mul_comm (2 * w + 2 * st)]
    refine Nat.mul_le_mul_right _ ?_
    have h3 : 2 * w + 2 * st = 2 * (w + st) := by omega
    rw [h3, Nat.mul_mul_mul_comm]
    refine Nat.mul_le_mul_left _ ?_
    by_cases hz : w * w = n
    · have : st = 0 := by rw [← hst, hz]; simp
      rw [this, Nat.add_zero]; omega
    · have : st = 1 := by
        rw [← hst]
        have : (w * w != n) = true := by simpa using hz
        rw [this]; rfl
      rw [this]; exact Nat.le_of_lt r2
theorem fsqrt_some {x : Int} {r : Nat} (h : Ieee.double.sqrt x.toNat = some r) : fsqrtI x = r := by
  unfold fsqrtI
  show (match Ieee.double.sqrt x.toNat with | some r => (r : Int) | none => -1) = _
  rw [h]
theorem fsqrt_none {x : Int} (h : Ieee.double.sqrt x.toNat = none) : fsqrtI x = -1 := by
  unfold fsqrtI
  show (match Ieee.double.sqrt x.toNat with | some r => (r : Int) | none => -1) = _
  rw [h]
theorem fsqrt_nan {x : Int} (hx : 0 ≤ x ∧ x ≤ topF .f64) (h : kI .f64 < mg .f64 x) : fsqrtI x = -1 := by
  have hr := read_nan Ieee.double (by decide) ((nan_nat (k := .f64) hx).2 h)
  have : Ieee.double.sqrt x.toNat = none := by unfold Format.sqrt; rw [hr]; rfl
  exact fsqrt_none this
theorem fsqrt_neg {x : Int} (hx : 0 ≤ x ∧ x ≤ topF .f64) (h : mg .f64 x ≤ kI .f64) (hn : kM .f64 ≤ x) (h0 : mg .f64 x ≠ 0) : fsqrtI x = -1 := by
  have hs := (nat_mod (k := .f64) hx).2
  rw [decide_eq_true hn] at hs
  have : Ieee.double.sqrt x.toNat = none := by
    unfold Format.sqrt
    by_cases he : mg .f64 x = kI .f64
    · have hr := read_inf Ieee.double (w := x.toNat) (by decide) (by
        have h1 := (nat_mod (k := .f64) hx).1; have h2 := fmt_I .f64
        show x.toNat % FloatKind.f64.format.signWeight = FloatKind.f64.format.infRung
        omega)
      rw [show (x.toNat / Ieee.double.signWeight % 2 == 1) = true from hs] at hr
      rw [hr]; rfl
    · have hr := read_fin Ieee.double (w := x.toNat) ((fin_nat (k := .f64) hx).2 (by omega))
      rw [show (x.toNat / Ieee.double.signWeight % 2 == 1) = true from hs] at hr
      rw [hr]
      have hz : magOf Ieee.double (x.toNat % Ieee.double.signWeight) ≠ 0 := by
        have h1 : x.toNat % Ieee.double.signWeight ≠ 0 := fun hh => h0 ((zero_nat (k := .f64) hx).1 hh)
        unfold magOf; rw [dBI]; split <;> omega
      generalize magOf Ieee.double (x.toNat % Ieee.double.signWeight) = m at *
      generalize placeOf Ieee.double (x.toNat % Ieee.double.signWeight) = i at *
      unfold Datum.root
      simp only [hz, if_false, if_true]
      rfl
  exact fsqrt_none this
theorem fsqrt_zero {x : Int} (hx : 0 ≤ x ∧ x ≤ topF .f64) (h0 : mg .f64 x = 0) : fsqrtI x = x := by
  have hz := (zero_nat (k := .f64) hx).2 h0
  have hz' : x.toNat % Ieee.double.signWeight = 0 := hz
  have hwr := write_read Ieee.double (by decide) (nat_lt (k := .f64) hx) (by rw [hz']; omega)
  have hr := read_fin Ieee.double (w := x.toNat) (by rw [hz', dIR]; decide)
  have hm0 : magOf Ieee.double (x.toNat % Ieee.double.signWeight) = 0 := by rw [hz']; rfl
  rw [hm0] at hr
  rw [hr] at hwr
  have : Ieee.double.sqrt x.toNat = some x.toNat := by
    unfold Format.sqrt
    rw [hr]
    generalize placeOf Ieee.double (x.toNat % Ieee.double.signWeight) = i at *
    unfold Datum.root
    simp only [if_true, Option.map_some]
    rw [hwr]
  rw [fsqrt_some this]
  omega
theorem fsqrt_inf : fsqrtI 9218868437227405312 = 9218868437227405312 := by decide
end Go.Sx
