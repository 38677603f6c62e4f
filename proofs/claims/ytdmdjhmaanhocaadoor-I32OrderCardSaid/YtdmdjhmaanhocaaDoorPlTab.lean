/- Noughts below by the table; rolls. No condition. -/
import Derived.Test.YtdmdjhmaanhocaaDoorPlSwar
namespace Go.Sx
open Go

def deB : List Nat := [0, 1, 56, 2, 57, 49, 28, 3, 61, 58, 42, 50, 38, 29, 17, 4, 62, 47, 59, 36, 45, 43, 51, 22, 53, 39, 33, 30, 24, 18, 12, 5, 63, 55, 48, 27, 60, 41, 37, 16, 46, 35, 44, 21, 52, 32, 23, 11, 54, 26, 40, 15, 34, 20, 31, 10, 25, 14, 19, 9, 13, 8, 7, 6]
theorem and_two {a b u v : Nat} (hu : u < 2) (hv : v < 2) : (2 * a + u) &&& (2 * b + v) = 2 * (a &&& b) + (u &&& v) := by
  apply Nat.eq_of_testBit_eq
  intro i
  have h : ∀ {c t : Nat}, t < 2 → (2 * c + t).testBit i = if i < 1 then t.testBit i else c.testBit (i - 1) := fun {c t} ht => by
    have := Nat.testBit_two_pow_mul_add c (show t < 2 ^ 1 by omega) i
    simpa using this
  have huv : (u &&& v) < 2 := Nat.lt_of_le_of_lt Nat.and_le_left hu
  rw [Nat.testBit_and, h hu, h hv, h huv, Nat.testBit_and, Nat.testBit_and]
  split <;> rfl
theorem and_compl (w m : Nat) (h : m < 2 ^ w) : m &&& (2 ^ w - (m + 1)) = 0 := by
  apply Nat.eq_of_testBit_eq
  intro i
  rw [Nat.testBit_and, Nat.testBit_two_pow_sub_succ h]
  cases m.testBit i <;> simp
theorem and_neg : ∀ (w n : Nat), 0 < n → n < 2 ^ w → n &&& (2 ^ w - n) = 2 ^ ctzF w n
  | 0, n, h, h' => by simp at h'; omega
  | w + 1, n, h, h' => by
    rw [Nat.pow_succ] at h'
    simp only [ctzF]
    by_cases ho : n % 2 = 1
    · rw [if_pos ho]
      have e1 : n = 2 * (n / 2) + 1 := by omega
      have e2 : 2 ^ (w + 1) - n = 2 * (2 ^ w - (n / 2 + 1)) + 1 := by rw [Nat.pow_succ]; omega
      rw [e2]
      conv => lhs; lhs; rw [e1]
      rw [and_two (by decide) (by decide), and_compl w _ (by omega)]
      rfl
    · rw [if_neg ho]
      have e1 : n = 2 * (n / 2) + 0 := by omega
      have e2 : 2 ^ (w + 1) - n = 2 * (2 ^ w - n / 2) + 0 := by rw [Nat.pow_succ]; omega
      rw [e2]
      conv => lhs; lhs; rw [e1]
      rw [and_two (by decide) (by decide), and_neg w (n / 2) (by omega) (by omega), Nat.add_comm 1, Nat.pow_succ]
      simp; omega
theorem ctzF_lt : ∀ (w n : Nat), 0 < n → n < 2 ^ w → ctzF w n < w
  | 0, n, h, h' => by simp at h'; omega
  | w + 1, n, h, h' => by
    rw [Nat.pow_succ] at h'
    simp only [ctzF]
    split
    · omega
    · have := ctzF_lt w (n / 2) (by omega) (by omega); omega
theorem ctzF_zero : ∀ w, ctzF w 0 = w
  | 0 => rfl
  | w + 1 => by simp [ctzF, ctzF_zero w]; omega
theorem popF_zero : ∀ w, popF w 0 = 0
  | 0 => rfl
  | w + 1 => by simp [popF, popF_zero w]
theorem clzF_zero : ∀ w, clzF w 0 = w
  | 0 => rfl
  | w + 1 => by simp [clzF, clzF_zero w]; omega
theorem deB_ok : ∀ c, c < 64 → deB.getD (2 ^ c * 285870213051353865 % 2 ^ 64 / 2 ^ 58) 0 = c := by decide +kernel
/-- noughts below by the table -/
theorem ctz_tab {n : Nat} (h : 0 < n) (h' : n < 2 ^ 64) : deB.getD ((n &&& (2 ^ 64 - n)) * 285870213051353865 % 2 ^ 64 / 2 ^ 58) 0 = ctzF 64 n := by
  rw [and_neg 64 n h h']; exact deB_ok _ (ctzF_lt 64 n h h')
/-- one more bit of a roll -/
theorem rot_one {w n k i : Nat} (hn : n < 2 ^ w) (hk : k < w) (hi : i < w) (hb : n.testBit i = true) :
    2 ^ ((i + k) % w) ||| rotF w (n / 2 ^ (i + 1) * 2 ^ (i + 1)) k = rotF w (n / 2 ^ i * 2 ^ i) k := by
  have hm : ∀ j, n / 2 ^ j * 2 ^ j < 2 ^ w := fun j => Nat.lt_of_le_of_lt (Nat.div_mul_le_self _ _) hn
  apply Nat.eq_of_testBit_eq
  intro j
  rw [Nat.testBit_or, testBit_rotF (hm _) hk, testBit_rotF (hm _) hk, Nat.testBit_two_pow]
  simp only [Nat.testBit_mul_two_pow, Nat.testBit_div_two_pow]
  by_cases hj : j < w
  · simp only [hj, decide_true, Bool.true_and]
    generalize hs : (j + (w - k)) % w = s
    have hsw : s < w := by rw [← hs]; exact Nat.mod_lt _ (by omega)
    have key : (i + k) % w = j ↔ s = i := by
      rw [← hs]
      rcases Nat.lt_or_ge (i + k) w with h1 | h1
      · rw [Nat.mod_eq_of_lt h1]
        rcases Nat.lt_or_ge (j + (w - k)) w with h2 | h2
        · rw [Nat.mod_eq_of_lt h2]; omega
        · rw [Nat.mod_eq_sub_mod h2, Nat.mod_eq_of_lt (by omega)]; omega
      · rw [Nat.mod_eq_sub_mod h1, Nat.mod_eq_of_lt (show i + k - w < w by omega)]
        rcases Nat.lt_or_ge (j + (w - k)) w with h2 | h2
        · rw [Nat.mod_eq_of_lt h2]; omega
        · rw [Nat.mod_eq_sub_mod h2, Nat.mod_eq_of_lt (by omega)]; omega
    by_cases h1 : s = i
    · have h2 := key.2 h1
      subst h1
      simp [h2, hb]
    · have h2 : ¬ (i + k) % w = j := fun h => h1 (key.1 h)
      simp only [h2, decide_false, Bool.false_or]
      rcases Nat.lt_or_ge s i with h3 | h3
      · have h4 : ¬ i ≤ s := by omega
        have h5 : ¬ i + 1 ≤ s := by omega
        simp [h4, h5]
      · have h4 : i ≤ s := h3
        have h5 : i + 1 ≤ s := by omega
        simp [h4, h5]
  · have : ¬ (i + k) % w = j := by have := Nat.mod_lt (i + k) (show 0 < w by omega); omega
    simp [hj, this]
theorem rot_none {w n k i : Nat} (hb : n.testBit i = false) :
    rotF w (n / 2 ^ (i + 1) * 2 ^ (i + 1)) k = rotF w (n / 2 ^ i * 2 ^ i) k := by
  have e : n / 2 ^ (i + 1) * 2 ^ (i + 1) = n / 2 ^ i * 2 ^ i := by
    apply Nat.eq_of_testBit_eq
    intro j
    simp only [Nat.testBit_mul_two_pow, Nat.testBit_div_two_pow]
    rcases Nat.lt_trichotomy j i with h | h | h
    · have h4 : ¬ i ≤ j := by omega
      have h5 : ¬ i + 1 ≤ j := by omega
      simp [h4, h5]
    · subst h; simp [hb]; omega
    · have h4 : i ≤ j := by omega
      have h5 : i + 1 ≤ j := by omega
      simp [h4, h5]
  rw [e]
/-- by two shifts -/
theorem rot_shifts {w n k : Nat} (hn : n < 2 ^ w) (hk : k ≤ w) : (n * 2 ^ k) % 2 ^ w ||| n / 2 ^ (w - k) = rotF w n k := by
  have hq : n / 2 ^ (w - k) < 2 ^ k := by
    have : n < 2 ^ k * 2 ^ (w - k) := by rw [← Nat.pow_add]; rwa [show k + (w - k) = w by omega]
    exact (Nat.div_lt_iff_lt_mul (Nat.two_pow_pos _)).2 this
  have e : n * 2 ^ k + n / 2 ^ (w - k) = n <<< k ||| n / 2 ^ (w - k) := by
    rw [← Nat.shiftLeft_add_eq_or_of_lt hq, Nat.shiftLeft_eq]
  rw [rotF, e, Nat.or_mod_two_pow, Nat.shiftLeft_eq, Nat.mod_eq_of_lt (a := n / 2 ^ (w - k)) (Nat.lt_of_lt_of_le hq (Nat.pow_le_pow_right (by decide) hk))]
end Go.Sx
