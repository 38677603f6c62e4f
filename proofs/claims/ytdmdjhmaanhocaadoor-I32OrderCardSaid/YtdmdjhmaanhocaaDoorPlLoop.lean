/- Counting loops over the places of a number; rolls, bit by bit. No condition. -/
import Derived.Test.YtdmdjhmaanhocaaDoorPlPat
namespace Go.Sx
open Go

theorem clz_more {x w k : Int} (_h0 : 0 ≤ k) (h1 : k < w) (hb : (pat w.toNat x).testBit (w - k - 1).toNat = false) : k + fnT 10 x w k = (k + 1) + fnT 10 x w (k + 1) := by
  simp only [fnT]
  have : (w - k).toNat = (w - (k + 1)).toNat + 1 := by omega
  rw [this]
  have h2 : (w - k - 1).toNat = (w - (k + 1)).toNat := by omega
  rw [h2] at hb
  simp only [clzF, hb]
  simp; omega
theorem clz_end {x w k : Int} (_h0 : 0 ≤ k) (h1 : k < w) (hb : (pat w.toNat x).testBit (w - k - 1).toNat = true) : k + fnT 10 x w k = k := by
  simp only [fnT]
  have : ∀ m n : Nat, m = n + 1 → (pat w.toNat x).testBit n = true → clzF m (pat w.toNat x) = 0 := fun m n h hb => by
    subst h; simp [clzF, hb]
  rw [this _ (w - k - 1).toNat (by omega) hb]; simp
theorem fn10_zero {x w k : Int} (h : w ≤ k) : fnT 10 x w k = 0 := by
  simp only [fnT]
  have : (w - k).toNat = 0 := by omega
  rw [this]; simp [clzF]
theorem fn11_zero {x w k : Int} (h : w ≤ k) : fnT 11 x w k = 0 := by
  simp only [fnT]
  have : (w - k).toNat = 0 := by omega
  rw [this]; simp [ctzF]
theorem fn12_zero {x w k : Int} (h : w ≤ k) : fnT 12 x w k = 0 := by
  simp only [fnT]
  have : (w - k).toNat = 0 := by omega
  rw [this]; simp [popF]
theorem ctz_more {x w k : Int} (h0 : 0 ≤ k) (h1 : k < w) (hb : (pat w.toNat x).testBit k.toNat = false) : k + fnT 11 x w k = (k + 1) + fnT 11 x w (k + 1) := by
  simp only [fnT]
  have : (w - k).toNat = (w - (k + 1)).toNat + 1 := by omega
  rw [this]
  rw [Nat.testBit_eq_decide_div_mod_eq] at hb
  simp only [decide_eq_false_iff_not] at hb
  have h2 : (k + 1).toNat = k.toNat + 1 := by omega
  simp only [ctzF, if_neg hb, h2, Nat.pow_succ, Nat.div_div_eq_div_mul]
  omega
theorem ctz_end {x w k : Int} (_h0 : 0 ≤ k) (h1 : k < w) (hb : (pat w.toNat x).testBit k.toNat = true) : k + fnT 11 x w k = k := by
  simp only [fnT]
  have : (w - k).toNat = (w - (k + 1)).toNat + 1 := by omega
  rw [this]
  rw [Nat.testBit_eq_decide_div_mod_eq] at hb
  simp only [decide_eq_true_eq] at hb
  simp only [ctzF, if_pos hb]; simp
theorem pop_more {x w k : Int} (h0 : 0 ≤ k) (h1 : k < w) : fnT 12 x w k = (if (pat w.toNat x).testBit k.toNat then 1 else 0) + fnT 12 x w (k + 1) := by
  simp only [fnT]
  have : (w - k).toNat = (w - (k + 1)).toNat + 1 := by omega
  rw [this, Nat.testBit_eq_decide_div_mod_eq]
  have h2 : (k + 1).toNat = k.toNat + 1 := by omega
  simp only [popF, h2, Nat.pow_succ, Nat.div_div_eq_div_mul, decide_eq_true_eq]
  split <;> omega

/-- a roll, bit by bit -/
theorem testBit_rotF {w n k : Nat} (hn : n < 2 ^ w) (hk : k < w) (j : Nat) : (rotF w n k).testBit j = (decide (j < w) && n.testBit ((j + (w - k)) % w)) := by
  have e : n * 2 ^ k + n / 2 ^ (w - k) = n <<< k ||| n / 2 ^ (w - k) := by
    rw [← Nat.shiftLeft_add_eq_or_of_lt, Nat.shiftLeft_eq]
    have : n < 2 ^ k * 2 ^ (w - k) := by rw [← Nat.pow_add]; rwa [show k + (w - k) = w by omega]
    exact (Nat.div_lt_iff_lt_mul (Nat.two_pow_pos _)).2 this
  simp only [rotF, e, Nat.testBit_mod_two_pow, Nat.testBit_or, Nat.testBit_shiftLeft, Nat.testBit_div_two_pow]
  by_cases hj : j < w
  · simp only [hj, decide_true, Bool.true_and]
    by_cases hjk : k ≤ j
    · have h1 : (j + (w - k)) % w = j - k := by
        rw [show j + (w - k) = j - k + w by omega, Nat.add_mod_right, Nat.mod_eq_of_lt (by omega)]
      rw [h1]
      have h2 : n.testBit (j + (w - k)) = false := Nat.testBit_lt_two_pow (Nat.lt_of_lt_of_le hn (Nat.pow_le_pow_right (by decide) (by omega)))
      simp [h2, hjk]
    · have h1 : (j + (w - k)) % w = j + (w - k) := Nat.mod_eq_of_lt (by omega)
      simp [h1, hjk]
  · simp [hj]
theorem rotF_lt (w n k : Nat) : rotF w n k < 2 ^ w := Nat.mod_lt _ (Nat.two_pow_pos w)
end Go.Sx
