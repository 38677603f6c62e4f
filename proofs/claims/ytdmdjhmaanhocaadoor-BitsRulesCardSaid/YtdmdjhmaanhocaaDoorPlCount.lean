/- Counts of powers of two, of shifted and rolled numbers. No condition. -/
import Derived.Test.YtdmdjhmaanhocaaDoorPlSame
namespace Go.Sx
open Go
theorem clzF_pow : ∀ (w b : Nat), b < w → clzF w (2 ^ b) = w - 1 - b
  | w + 1, b, h => by
    simp only [clzF, Nat.testBit_two_pow]
    by_cases hb : b = w
    · simp [hb]
    · simp only [hb, decide_false, Bool.false_eq_true, if_false, clzF_pow w b (by omega)]; omega
theorem ctzF_pow : ∀ (w b : Nat), b < w → ctzF w (2 ^ b) = b
  | w + 1, 0, h => by simp [ctzF]
  | w + 1, b + 1, h => by
    have h1 : 2 ^ (b + 1) % 2 = 0 := by rw [Nat.pow_succ]; omega
    have h2 : 2 ^ (b + 1) / 2 = 2 ^ b := by rw [Nat.pow_succ]; omega
    simp only [ctzF, h1, h2, ctzF_pow w b (by omega)]; simp; omega
theorem popF_pow : ∀ (w b : Nat), b < w → popF w (2 ^ b) = 1
  | w + 1, 0, h => by simp [popF, popF_zero]
  | w + 1, b + 1, h => by
    have h1 : 2 ^ (b + 1) % 2 = 0 := by rw [Nat.pow_succ]; omega
    have h2 : 2 ^ (b + 1) / 2 = 2 ^ b := by rw [Nat.pow_succ]; omega
    simp only [popF, h1, h2, popF_pow w b (by omega)]
theorem rotF_pow {w b k : Nat} (hb : b < w) (hk : k < w) : rotF w (2 ^ b) k = 2 ^ ((b + k) % w) := by
  apply Nat.eq_of_testBit_eq
  intro j
  rw [testBit_rotF (Nat.pow_lt_pow_right (by decide) hb) hk, Nat.testBit_two_pow, Nat.testBit_two_pow]
  by_cases hj : j < w
  · simp only [hj, decide_true, Bool.true_and]
    apply decide_eq_decide.2
    rcases Nat.lt_or_ge (b + k) w with h1 | h1
    · rw [Nat.mod_eq_of_lt h1]
      rcases Nat.lt_or_ge (j + (w - k)) w with h2 | h2
      · rw [Nat.mod_eq_of_lt h2]; omega
      · rw [Nat.mod_eq_sub_mod h2, Nat.mod_eq_of_lt (by omega)]; omega
    · rw [Nat.mod_eq_sub_mod h1, Nat.mod_eq_of_lt (show b + k - w < w by omega)]
      rcases Nat.lt_or_ge (j + (w - k)) w with h2 | h2
      · rw [Nat.mod_eq_of_lt h2]; omega
      · rw [Nat.mod_eq_sub_mod h2, Nat.mod_eq_of_lt (by omega)]; omega
  · have : ¬ (b + k) % w = j := by have := Nat.mod_lt (b + k) (show 0 < w by omega); omega
    simp [hj, this]
theorem clzF_top : ∀ (w n : Nat), n ≠ 0 → n < 2 ^ w → clzF w n < w ∧ n.testBit (w - 1 - clzF w n) = true ∧ n < 2 ^ (w - clzF w n)
  | 0, n, h, h' => absurd (by simpa using h') h
  | w + 1, n, h, h' => by
    simp only [clzF]
    split
    · rename_i hb; simp [hb, h']
    · rename_i hb
      have hb : n.testBit w = false := by simpa using hb
      have hn : n < 2 ^ w := by
        rw [Nat.testBit_eq_decide_div_mod_eq] at hb
        simp only [decide_eq_false_iff_not] at hb
        have h4 : n / 2 ^ w < 2 := (Nat.div_lt_iff_lt_mul (Nat.two_pow_pos _)).2 (by rw [Nat.mul_comm, ← Nat.pow_succ]; exact h')
        have h5 : n / 2 ^ w = 0 := by generalize n / 2 ^ w = q at *; omega
        exact (Nat.div_eq_zero_iff_lt (Nat.two_pow_pos _)).1 h5
      obtain ⟨h1, h2, h3⟩ := clzF_top w n h hn
      have e1 : w + 1 - 1 - (1 + clzF w n) = w - 1 - clzF w n := by omega
      have e2 : w + 1 - (1 + clzF w n) = w - clzF w n := by omega
      rw [e1, e2]
      exact ⟨by omega, h2, h3⟩
theorem ctzF_low : ∀ (w n : Nat), n ≠ 0 → n < 2 ^ w → n / 2 ^ ctzF w n % 2 = 1 ∧ n % 2 ^ ctzF w n = 0
  | 0, n, h, h' => absurd (by simpa using h') h
  | w + 1, n, h, h' => by
    simp only [ctzF]
    split
    · rename_i hb; simp [hb, Nat.mod_one]
    · rename_i hb
      obtain ⟨h1, h2⟩ := ctzF_low w (n / 2) (by omega) (by rw [Nat.pow_succ] at h'; omega)
      rw [Nat.add_comm 1, Nat.pow_succ, Nat.mul_comm, ← Nat.div_div_eq_div_mul]
      refine ⟨h1, ?_⟩
      rw [Nat.mod_mul, h2]; omega
theorem clzF_shifted {w n : Nat} (h : n ≠ 0) (h' : n < 2 ^ w) : clzF w (n * 2 ^ clzF w n % 2 ^ w) = 0 := by
  obtain ⟨h1, h2, h3⟩ := clzF_top w n h h'
  obtain ⟨v, rfl⟩ : ∃ v, w = v + 1 := ⟨w - 1, by omega⟩
  generalize clzF (v + 1) n = c at *
  have : (n * 2 ^ c % 2 ^ (v + 1)).testBit v = true := by
    rw [Nat.testBit_mod_two_pow, Nat.testBit_mul_two_pow]
    simp only [show v < v + 1 by omega, show c ≤ v by omega, decide_true, Bool.true_and]
    simpa using h2
  simp [clzF, this]
theorem ctzF_shifted {w n : Nat} (h : n ≠ 0) (h' : n < 2 ^ w) : ctzF w (n / 2 ^ ctzF w n) = 0 := by
  obtain ⟨h1, h2⟩ := ctzF_low w n h h'
  generalize n / 2 ^ ctzF w n = m at *
  cases w with
  | zero => rfl
  | succ v => simp only [ctzF]; rw [if_pos h1]
theorem popF_pos : ∀ (w n : Nat), n ≠ 0 → n < 2 ^ w → 1 ≤ popF w n
  | 0, n, h, h' => absurd (by simpa using h') h
  | w + 1, n, h, h' => by
    simp only [popF]
    rw [Nat.pow_succ] at h'
    by_cases hn : n / 2 = 0
    · omega
    · have := popF_pos w (n / 2) hn (by omega); omega
theorem popF_between {w n : Nat} (h : n ≠ 0) (h' : n < 2 ^ w) : clzF w n + ctzF w n < w ∧ popF w n ≤ w - clzF w n - ctzF w n := by
  obtain ⟨h1, h2, h3⟩ := clzF_top w n h h'
  obtain ⟨h4, h5⟩ := ctzF_low w n h h'
  have h6 : 2 ^ ctzF w n ≤ n := by
    have := Nat.div_pos_iff.1 (show 0 < n / 2 ^ ctzF w n by generalize n / 2 ^ ctzF w n = q at *; omega)
    exact this.2
  have h7 : ctzF w n < w - clzF w n := (Nat.pow_lt_pow_iff_right (by decide)).1 (Nat.lt_of_le_of_lt h6 h3)
  refine ⟨by omega, ?_⟩
  generalize clzF w n = c at *
  generalize ctzF w n = d at *
  have e1 : popF w n = popF (w - c) n + popF c (n / 2 ^ (w - c)) := by rw [← popF_add, show w - c + c = w by omega]
  have e2 : popF (w - c) n = popF d n + popF (w - c - d) (n / 2 ^ d) := by rw [← popF_add, show d + (w - c - d) = w - c by omega]
  rw [e1, Nat.div_eq_of_lt h3, popF_zero, e2, ← popF_mod d, h5, popF_zero]
  have := popF_le (w - c - d) (n / 2 ^ d)
  omega
end Go.Sx
