/- Rounding does not fall as the number grows; a rung's own value is rounded to it. No condition. -/
import Derived.Test.YtnodelimomljbaaPlFltA
namespace Go.Sx
open Ieee

theorem log2_le {m n : Nat} (h : m ≤ n) : m.log2 ≤ n.log2 := by
  by_cases h0 : m = 0
  · subst h0; simp
  · have h1 := Nat.log2_self_le h0
    exact (Nat.le_log2 (by omega)).2 (Nat.le_trans h1 h)
theorem kept_le {m n : Nat} (e l : Int) (h : m ≤ n) : kept m e l ≤ kept n e l := by
  unfold kept
  refine rne_le _ ?_
  rw [Nat.shiftLeft_eq, Nat.shiftLeft_eq]
  exact Nat.mul_le_mul_right _ h
theorem kept_pow {a b : Nat} {e l : Int} (h : (b : Int) = a + e - l) : kept (2 ^ a) e l = 2 ^ b := by
  unfold kept
  rw [Nat.shiftLeft_eq]
  by_cases h1 : 0 ≤ e - l
  · have d : (l - e).toNat = 0 := by omega
    rw [d, rne_zero, ← Nat.pow_add]; congr 1; omega
  · have d : (e - l).toNat = 0 := by omega
    have d2 : (l - e).toNat = 0 + (l - e).toNat := by omega
    rw [d, Nat.pow_zero, Nat.mul_one, d2]
    have : 2 ^ a = 2 ^ b * 2 ^ (l - e).toNat := by rw [← Nat.pow_add]; congr 1; omega
    rw [this, rne_scale, rne_zero]
theorem rne_small' {n d : Nat} (h : 2 * n ≤ 2 ^ d) : rne n d ≤ 1 := by
  unfold rne
  have h0 : 0 < 2 ^ d := Nat.two_pow_pos d
  have h1 : n / 2 ^ d = 0 := Nat.div_eq_of_lt (by omega)
  rw [h1]; split <;> omega
theorem rung_mono (f : Format) {m n : Nat} (e : Int) (h : m ≤ n) : rungOf f m e ≤ rungOf f n e := by
  by_cases h0 : m = 0
  · subst h0; unfold rungOf; simp
  · have hn0 : n ≠ 0 := by omega
    have hb := binade_pos f
    have eb : f.binade = 2 ^ f.fractionBits := rfl
    have hlog := log2_le h
    unfold rungOf
    rw [if_neg h0, if_neg hn0]
    refine Nat.le_min.2 ⟨Nat.le_trans (Nat.min_le_left _ _) ?_, Nat.min_le_right _ _⟩
    have hL : lastP f m e ≤ lastP f n e := by unfold lastP; omega
    have hge : f.leastPlace ≤ lastP f m e := by unfold lastP; omega
    by_cases he : lastP f m e = lastP f n e
    · rw [he]
      exact Nat.add_le_add_left (kept_le _ _ h) _
    · have hlt : lastP f m e < lastP f n e := by omega
      have hn : lastP f n e = e + n.log2 - f.fractionBits := by unfold lastP at hlt hge ⊢; omega
      have hm : e + m.log2 - f.fractionBits ≤ lastP f m e := by unfold lastP; omega
      have k1 : f.binade ≤ kept n e (lastP f n e) := by
        have := kept_le e (lastP f n e) (Nat.log2_self_le hn0)
        rw [kept_pow (b := f.fractionBits) (by omega)] at this
        rw [eb]; exact this
      have k2 : kept m e (lastP f m e) ≤ 2 * f.binade := by
        have h2 : m ≤ 2 ^ (m.log2 + 1) := Nat.le_of_lt Nat.lt_log2_self
        refine Nat.le_trans (kept_le e (lastP f m e) h2) ?_
        have e2 : 2 * f.binade = 2 ^ (f.fractionBits + 1) := by rw [eb, Nat.pow_succ]; omega
        rw [e2]
        by_cases hs : lastP f m e ≤ (m.log2 + 1 : Nat) + e
        · obtain ⟨b, hb1⟩ : ∃ b : Nat, (b : Int) = (m.log2 + 1 : Nat) + e - lastP f m e := ⟨((m.log2 + 1 : Nat) + e - lastP f m e).toNat, by omega⟩
          rw [kept_pow hb1]
          exact Nat.pow_le_pow_right (by decide) (by omega)
        · unfold kept
          have d : (e - lastP f m e).toNat = 0 := by omega
          rw [d, Nat.shiftLeft_zero]
          have : 2 * 2 ^ (m.log2 + 1) ≤ 2 ^ (lastP f m e - e).toNat := by
            rw [← Nat.pow_succ']
            exact Nat.pow_le_pow_right (by decide) (by omega)
          have h1 := rne_small' this
          have h3 : 1 ≤ 2 ^ (f.fractionBits + 1) := Nat.one_le_two_pow
          omega
      obtain ⟨p, hp⟩ : ∃ p : Nat, (lastP f m e - f.leastPlace).toNat = p := ⟨_, rfl⟩
      obtain ⟨q, hq⟩ : ∃ q : Nat, (lastP f n e - f.leastPlace).toNat = q := ⟨_, rfl⟩
      rw [hp, hq]
      have hpq : p + 1 ≤ q := by omega
      have h3 : (p + 1) * f.binade ≤ q * f.binade := Nat.mul_le_mul_right _ hpq
      rw [Nat.succ_mul] at h3
      omega
/-- a rung's value, in finer units -/
theorem rung_val (f : Format) {r : Nat} (h : r ≤ f.infRung) (d : Nat) : rungOf f (val f r * 2 ^ d) (f.leastPlace - d) = r := by
  rw [rung_scale]
  have h1 := place_ge f r
  unfold val
  have := rung_scale f (magOf f r) (placeOf f r - f.leastPlace).toNat (placeOf f r)
  rw [show placeOf f r - ((placeOf f r - f.leastPlace).toNat : Nat) = f.leastPlace by omega] at this
  rw [this]
  exact rung_back f h
theorem rung_le (f : Format) (n : Nat) (e : Int) : rungOf f n e ≤ f.infRung := by
  unfold rungOf; split
  · omega
  · exact Nat.min_le_right _ _
theorem le_rung (f : Format) {r n d : Nat} (h : r ≤ f.infRung) (hv : val f r * 2 ^ d ≤ n) : r ≤ rungOf f n (f.leastPlace - d) := by
  have := rung_mono f (f.leastPlace - d) hv
  rwa [rung_val f h] at this
theorem rung_le_of (f : Format) {r n d : Nat} (h : r ≤ f.infRung) (hv : n ≤ val f r * 2 ^ d) : rungOf f n (f.leastPlace - d) ≤ r := by
  have := rung_mono f (f.leastPlace - d) hv
  rwa [rung_val f h] at this
end Go.Sx
