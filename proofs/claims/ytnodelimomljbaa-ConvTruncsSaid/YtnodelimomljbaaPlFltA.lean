/- Floats as words: rounding hangs on the value alone; what is read and written is the word; order is the order of the rungs. No condition. -/
import Derived.Laws.FloatBits
namespace Go.Sx
open Ieee

/-! ### rounding -/
/-- n / 2^d to the nearest, of two the even one -/
def rne (n d : Nat) : Nat := n / 2 ^ d + (if 2 ^ d < 2 * (n % 2 ^ d) ∨ (2 ^ d = 2 * (n % 2 ^ d) ∧ n / 2 ^ d % 2 = 1) then 1 else 0)
theorem rne_zero (n : Nat) : rne n 0 = n := by
  unfold rne
  simp [Nat.mod_one]
theorem rne_small {n d : Nat} (h : 2 * n < 2 ^ d) : rne n d = 0 := by
  unfold rne
  have h1 : n / 2 ^ d = 0 := Nat.div_eq_of_lt (by omega)
  have h2 : n % 2 ^ d = n := Nat.mod_eq_of_lt (by omega)
  rw [h1, h2, if_neg (by omega)]
theorem cut_even (neg : Bool) (n d : Nat) : Toward.even.cut neg n d = rne n d := by
  unfold Toward.cut
  have hlt : n < 2 ^ (n.log2 + 1) := Nat.lt_log2_self
  by_cases h : d ≤ n.log2 + 2
  · rw [Nat.min_eq_left h]
    simp only [Nat.one_shiftLeft]
    unfold rne
    congr 1
    by_cases h1 : 2 ^ d < 2 * (n % 2 ^ d)
    · simp [h1]
    · by_cases h2 : 2 ^ d = 2 * (n % 2 ^ d) ∧ n / 2 ^ d % 2 = 1
      · rw [if_pos (.inr h2)]; simp [← h2.1, h2.2]
      · rw [if_neg (fun h => h.elim h1 h2)]
        have : (decide (2 ^ d < 2 * (n % 2 ^ d)) || (2 ^ d == 2 * (n % 2 ^ d) && n / 2 ^ d % 2 == 1)) = false := by
          simp only [h1, decide_false, Bool.false_or, Bool.and_eq_false_iff, beq_eq_false_iff_ne, ne_eq]
          by_cases h3 : 2 ^ d = 2 * (n % 2 ^ d)
          · exact .inr fun h4 => h2 ⟨h3, h4⟩
          · exact .inl h3
        rw [this]; rfl
  · rw [Nat.min_eq_right (by omega)]
    simp only [Nat.one_shiftLeft]
    have e : 2 ^ (n.log2 + 2) = 2 * 2 ^ (n.log2 + 1) := by rw [Nat.pow_succ]; omega
    have h1 : n / 2 ^ (n.log2 + 2) = 0 := Nat.div_eq_of_lt (by omega)
    have h2 : n % 2 ^ (n.log2 + 2) = n := Nat.mod_eq_of_lt (by omega)
    have h3 : 2 ^ (n.log2 + 2) ≤ 2 ^ d := Nat.pow_le_pow_right (by decide) (by omega)
    rw [rne_small (by omega), h1, h2]
    have : (decide (2 ^ (n.log2 + 2) < 2 * n) || (2 ^ (n.log2 + 2) == 2 * n && 0 % 2 == 1)) = false := by simp; omega
    rw [this]; rfl
theorem rne_scale (n d k : Nat) : rne (n * 2 ^ k) (d + k) = rne n d := by
  have hk : 0 < 2 ^ k := Nat.two_pow_pos k
  have e : 2 ^ (d + k) = 2 ^ d * 2 ^ k := Nat.pow_add 2 d k
  unfold rne
  rw [e, Nat.mul_div_mul_right _ _ hk, Nat.mul_mod_mul_right]
  have h1 : (2 ^ d * 2 ^ k < 2 * (n % 2 ^ d * 2 ^ k)) ↔ (2 ^ d < 2 * (n % 2 ^ d)) := by
    rw [← Nat.mul_assoc]; exact Nat.mul_lt_mul_right hk
  have h2 : (2 ^ d * 2 ^ k = 2 * (n % 2 ^ d * 2 ^ k)) ↔ (2 ^ d = 2 * (n % 2 ^ d)) := by
    rw [← Nat.mul_assoc]; exact Nat.mul_right_cancel_iff hk
  simp only [h1, h2]
theorem rne_le {n m : Nat} (d : Nat) (h : n ≤ m) : rne n d ≤ rne m d := by
  unfold rne
  have hp : 0 < 2 ^ d := Nat.two_pow_pos d
  have hq : n / 2 ^ d ≤ m / 2 ^ d := Nat.div_le_div_right h
  have en := Nat.div_add_mod n (2 ^ d)
  have em := Nat.div_add_mod m (2 ^ d)
  generalize n / 2 ^ d = q at *
  generalize m / 2 ^ d = q' at *
  generalize n % 2 ^ d = r at *
  generalize m % 2 ^ d = r' at *
  by_cases hqq : q = q'
  · subst hqq
    have : r ≤ r' := by omega
    by_cases c : 2 ^ d < 2 * r ∨ (2 ^ d = 2 * r ∧ q % 2 = 1)
    · rw [if_pos c, if_pos (by omega)]; exact Nat.le_refl _
    · rw [if_neg c]; omega
  · have : q + 1 ≤ q' := by omega
    split <;> omega
/-- a number's last place, and what is kept of it -/
def lastP (f : Format) (mag : Nat) (place : Int) : Int := max (place + mag.log2 - f.fractionBits) f.leastPlace
def kept (mag : Nat) (place last : Int) : Nat := rne (mag <<< (place - last).toNat) (last - place).toNat
def rungOf (f : Format) (mag : Nat) (place : Int) : Nat := if mag = 0 then 0 else min ((lastP f mag place - f.leastPlace).toNat * f.binade + kept mag place (lastP f mag place)) f.infRung
theorem nearest_rung (f : Format) (neg : Bool) (mag : Nat) (place : Int) : f.nearest neg mag place = f.word neg (rungOf f mag place) := by
  unfold Format.nearest rungOf
  by_cases h : mag = 0
  · rw [if_pos h, if_pos h]
  · rw [if_neg h, if_neg h]
    simp only [cut_even]
    rfl
theorem log2_scale {m : Nat} (h : m ≠ 0) (k : Nat) : (m * 2 ^ k).log2 = m.log2 + k := by
  have hk : 0 < 2 ^ k := Nat.two_pow_pos k
  have h0 : m * 2 ^ k ≠ 0 := Nat.mul_ne_zero h (by omega)
  have h1 : 2 ^ m.log2 ≤ m := Nat.log2_self_le h
  have h2 : m < 2 ^ (m.log2 + 1) := Nat.lt_log2_self
  have e1 : 2 ^ (m.log2 + k) ≤ m * 2 ^ k := by rw [Nat.pow_add]; exact Nat.mul_le_mul_right _ h1
  have e2 : m * 2 ^ k < 2 ^ (m.log2 + k + 1) := by
    have : 2 ^ (m.log2 + k + 1) = 2 ^ (m.log2 + 1) * 2 ^ k := by rw [← Nat.pow_add]; congr 1; omega
    rw [this]; exact Nat.mul_lt_mul_of_pos_right h2 hk
  have a1 := (Nat.le_log2 h0).2 e1
  have a2 := (Nat.log2_lt h0).2 e2
  omega
theorem kept_scale (m k : Nat) (e l : Int) : kept (m * 2 ^ k) (e - k) l = kept m e l := by
  unfold kept
  simp only [Nat.shiftLeft_eq]
  by_cases h1 : (k : Int) ≤ e - l
  · have d1 : (l - (e - k)).toNat = 0 := by omega
    have d2 : (l - e).toNat = 0 := by omega
    rw [d1, d2, rne_zero, rne_zero, Nat.mul_assoc, ← Nat.pow_add]
    congr 2; omega
  · by_cases h2 : 0 ≤ e - l
    · have d1 : (e - k - l).toNat = 0 := by omega
      have d2 : (l - e).toNat = 0 := by omega
      rw [d1, d2, rne_zero, Nat.pow_zero, Nat.mul_one]
      have d3 : (l - (e - k)).toNat = 0 + (k - (e - l).toNat) := by omega
      have d4 : m * 2 ^ k = m * 2 ^ (e - l).toNat * 2 ^ (k - (e - l).toNat) := by rw [Nat.mul_assoc, ← Nat.pow_add]; congr 2; omega
      rw [d3, d4, rne_scale, rne_zero]
    · have d1 : (e - k - l).toNat = 0 := by omega
      have d2 : (e - l).toNat = 0 := by omega
      have d3 : (l - (e - k)).toNat = (l - e).toNat + k := by omega
      rw [d1, d2, d3, Nat.pow_zero, Nat.mul_one, Nat.mul_one, rne_scale]
/-- rounding hangs on the value alone -/
theorem rung_scale (f : Format) (m k : Nat) (e : Int) : rungOf f (m * 2 ^ k) (e - k) = rungOf f m e := by
  by_cases h : m = 0
  · subst h; simp [rungOf]
  · have h0 : m * 2 ^ k ≠ 0 := Nat.mul_ne_zero h (by have := Nat.two_pow_pos k; omega)
    unfold rungOf
    rw [if_neg h0, if_neg h]
    have hl : lastP f (m * 2 ^ k) (e - k) = lastP f m e := by
      unfold lastP
      rw [log2_scale h]
      congr 1
      push_cast; omega
    rw [hl, kept_scale]
theorem nearest_scale (f : Format) (neg : Bool) (m k : Nat) (e : Int) : f.nearest neg (m * 2 ^ k) (e - k) = f.nearest neg m e := by
  rw [nearest_rung, nearest_rung, rung_scale]

/-! ### what is read -/
theorem mod_word (f : Format) (neg : Bool) {r : Nat} (h : r < f.signWeight) : f.word neg r % f.signWeight = r ∧ (f.word neg r / f.signWeight % 2 == 1) = neg := by
  have hp : 0 < f.signWeight := by omega
  unfold Format.word
  cases neg with
  | true => simp only [if_true]; rw [Nat.add_mod_left, Nat.mod_eq_of_lt h, Nat.add_div_left _ hp, Nat.div_eq_of_lt h]; exact ⟨rfl, rfl⟩
  | false => simp only [Bool.false_eq_true, if_false]; rw [Nat.mod_eq_of_lt h, Nat.div_eq_of_lt h]; exact ⟨rfl, rfl⟩
theorem word_mod (f : Format) {w : Nat} (h : w < 2 * f.signWeight) : f.word (w / f.signWeight % 2 == 1) (w % f.signWeight) = w := by
  have hp : 0 < f.signWeight := by omega
  have hm := Nat.div_add_mod w f.signWeight
  have hq : w / f.signWeight < 2 := (Nat.div_lt_iff_lt_mul hp).2 h
  unfold Format.word
  generalize w / f.signWeight = q at *
  generalize w % f.signWeight = r at *
  rcases (show q = 0 ∨ q = 1 by omega) with h0 | h0
  · subst h0; simp at hm ⊢; omega
  · subst h0; simp at hm ⊢; omega
/-- a rung's magnitude and place -/
def magOf (f : Format) (r : Nat) : Nat := if r < f.binade then r else f.binade + r % f.binade
def placeOf (f : Format) (r : Nat) : Int := if r < f.binade then f.leastPlace else f.leastPlace + (r / f.binade - 1 : Nat)
theorem read_fin (f : Format) {w : Nat} (h : w % f.signWeight < f.infRung) : f.read w = .number (w / f.signWeight % 2 == 1) (magOf f (w % f.signWeight)) (placeOf f (w % f.signWeight)) := by
  unfold Format.read magOf placeOf
  dsimp only
  by_cases h1 : w % f.signWeight < f.binade
  · rw [if_pos h1, if_pos h1, if_pos h1]
  · rw [if_neg h1, if_neg h1, if_neg h1, if_pos h]
theorem binade_pos (f : Format) : 0 < f.binade := Nat.two_pow_pos _
theorem binade_le (f : Format) (he : 2 ≤ f.exponentBits) : f.binade ≤ f.infRung := by
  unfold Format.infRung
  have : 2 ^ 2 ≤ 2 ^ f.exponentBits := Nat.pow_le_pow_right (by decide) he
  exact Nat.le_mul_of_pos_left _ (by omega)
theorem read_inf (f : Format) (he : 2 ≤ f.exponentBits) {w : Nat} (h : w % f.signWeight = f.infRung) : f.read w = .infinity (w / f.signWeight % 2 == 1) := by
  have := binade_le f he
  unfold Format.read
  dsimp only
  rw [h, if_neg (by omega), if_neg (by omega), if_pos rfl]
theorem read_nan (f : Format) (he : 2 ≤ f.exponentBits) {w : Nat} (h : f.infRung < w % f.signWeight) : f.read w = .nan (w / f.signWeight % 2 == 1) (w % f.signWeight - f.infRung) := by
  have := binade_le f he
  unfold Format.read
  dsimp only
  rw [if_neg (by omega), if_neg (by omega), if_neg (by omega)]
/-- a rung's own magnitude is rounded to it -/
theorem rung_back (f : Format) {r : Nat} (h : r ≤ f.infRung) : rungOf f (magOf f r) (placeOf f r) = r := by
  have hb := binade_pos f
  have eb : f.binade = 2 ^ f.fractionBits := rfl
  unfold magOf placeOf
  by_cases h1 : r < f.binade
  · rw [if_pos h1, if_pos h1]
    unfold rungOf
    by_cases h0 : r = 0
    · rw [if_pos h0]; exact h0.symm
    · rw [if_neg h0]
      have hl : r.log2 < f.fractionBits := (Nat.log2_lt h0).2 (by rw [← eb]; exact h1)
      have : lastP f r f.leastPlace = f.leastPlace := by unfold lastP; omega
      rw [this]
      unfold kept
      simp [rne_zero]
      omega
  · rw [if_neg h1, if_neg h1]
    have hm : r % f.binade < f.binade := Nat.mod_lt _ hb
    have hq : 1 ≤ r / f.binade := (Nat.le_div_iff_mul_le hb).2 (by omega)
    have hr := Nat.div_add_mod r f.binade
    have h0 : f.binade + r % f.binade ≠ 0 := by omega
    have hl : (f.binade + r % f.binade).log2 = f.fractionBits := by
      have a1 := (Nat.le_log2 h0 (k := f.fractionBits)).2 (by rw [← eb]; omega)
      have a2 := (Nat.log2_lt h0 (k := f.fractionBits + 1)).2 (by rw [Nat.pow_succ, ← eb]; omega)
      omega
    unfold rungOf
    rw [if_neg h0]
    have hla : lastP f (f.binade + r % f.binade) (f.leastPlace + (r / f.binade - 1 : Nat)) = f.leastPlace + (r / f.binade - 1 : Nat) := by
      unfold lastP; rw [hl]; omega
    rw [hla]
    unfold kept
    have d1 : (f.leastPlace + ((r / f.binade - 1 : Nat) : Int) - f.leastPlace).toNat = r / f.binade - 1 := by omega
    rw [d1]
    simp only [Int.sub_self, Int.toNat_zero, Nat.shiftLeft_zero, rne_zero]
    have d2 : (r / f.binade - 1) * f.binade + (f.binade + r % f.binade) = r := by
      have : (r / f.binade - 1) * f.binade + f.binade = r / f.binade * f.binade := by
        rw [← Nat.succ_mul]; congr 1; omega
      rw [← Nat.add_assoc, this, Nat.mul_comm]; exact hr
    rw [d2]
    exact Nat.min_eq_left h
/-- what is read is written -/
theorem write_read (f : Format) (he : 2 ≤ f.exponentBits) {w : Nat} (hw : w < 2 * f.signWeight) (h : w % f.signWeight ≤ f.infRung) : f.write (f.read w) = w := by
  rcases Nat.lt_or_eq_of_le h with h1 | h1
  · rw [read_fin f h1]
    show f.nearest _ _ _ = w
    rw [nearest_rung, rung_back f h, word_mod f hw]
  · rw [read_inf f he h1]
    show f.word _ _ = w
    rw [← h1, word_mod f hw]

/-! ### order -/
/-- a rung's value, in units of the least place -/
def val (f : Format) (r : Nat) : Nat := magOf f r * 2 ^ (placeOf f r - f.leastPlace).toNat
theorem val_eq (f : Format) (r : Nat) : val f r = if r < f.binade then r else (f.binade + r % f.binade) * 2 ^ (r / f.binade - 1) := by
  unfold val magOf placeOf
  split
  · simp
  · congr 2; omega
theorem val_lt (f : Format) {r s : Nat} (h : r < s) : val f r < val f s := by
  have hb := binade_pos f
  rw [val_eq, val_eq]
  by_cases h1 : s < f.binade
  · rw [if_pos (by omega), if_pos h1]; exact h
  · rw [if_neg h1]
    have hs1 : f.binade ≤ (f.binade + s % f.binade) * 2 ^ (s / f.binade - 1) := by
      have : 0 < 2 ^ (s / f.binade - 1) := Nat.two_pow_pos _
      exact Nat.le_trans (Nat.le_add_right _ _) (Nat.le_mul_of_pos_right _ this)
    by_cases h2 : r < f.binade
    · rw [if_pos h2]; omega
    · rw [if_neg h2]
      have hr := Nat.div_add_mod r f.binade
      have hs := Nat.div_add_mod s f.binade
      have hrm : r % f.binade < f.binade := Nat.mod_lt _ hb
      have hq1 : 1 ≤ r / f.binade := (Nat.le_div_iff_mul_le hb).2 (by omega)
      have hqq : r / f.binade ≤ s / f.binade := Nat.div_le_div_right (Nat.le_of_lt h)
      rcases Nat.lt_or_eq_of_le hqq with hq | hq
      · have a1 : (f.binade + r % f.binade) * 2 ^ (r / f.binade - 1) < (2 * f.binade) * 2 ^ (r / f.binade - 1) := Nat.mul_lt_mul_of_pos_right (by omega) (Nat.two_pow_pos _)
        have a2 : (2 * f.binade) * 2 ^ (r / f.binade - 1) = f.binade * 2 ^ (r / f.binade) := by
          have : 2 ^ (r / f.binade) = 2 * 2 ^ (r / f.binade - 1) := by rw [← Nat.pow_succ']; congr 1; omega
          rw [this, Nat.mul_comm 2, Nat.mul_assoc]
        have a3 : f.binade * 2 ^ (r / f.binade) ≤ f.binade * 2 ^ (s / f.binade - 1) := Nat.mul_le_mul_left _ (Nat.pow_le_pow_right (by decide) (by omega))
        have a4 : f.binade * 2 ^ (s / f.binade - 1) ≤ (f.binade + s % f.binade) * 2 ^ (s / f.binade - 1) := Nat.mul_le_mul_right _ (Nat.le_add_right _ _)
        omega
      · rw [← hq]
        rw [← hq] at hs
        exact Nat.mul_lt_mul_of_pos_right (by omega) (Nat.two_pow_pos _)
theorem val_inj (f : Format) {r s : Nat} (h : val f r = val f s) : r = s := by
  rcases Nat.lt_trichotomy r s with h1 | h1 | h1
  · have := val_lt f h1; omega
  · exact h1
  · have := val_lt f h1; omega
theorem val_zero (f : Format) : val f 0 = 0 := by rw [val_eq, if_pos (binade_pos f)]
theorem val_pos (f : Format) {r : Nat} (h : 0 < r) : 0 < val f r := by have := val_lt f h; rw [val_zero] at this; exact this
/-- a word's place among all: its rung, with its sign -/
def keyOf (f : Format) (w : Nat) : Int := if (w / f.signWeight % 2 == 1) = true then -((w % f.signWeight : Nat) : Int) else ((w % f.signWeight : Nat) : Int)
def sgnV (f : Format) (neg : Bool) (r : Nat) : Int := if neg = true then -((val f r : Nat) : Int) else ((val f r : Nat) : Int)
theorem place_ge (f : Format) (r : Nat) : f.leastPlace ≤ placeOf f r := by unfold placeOf; split <;> omega
theorem signed_val (f : Format) (neg : Bool) (r : Nat) {b : Int} (h1 : f.leastPlace ≤ b) (h2 : b ≤ placeOf f r) :
    Ieee.signed neg (magOf f r) (placeOf f r - b).toNat * ((2 ^ (b - f.leastPlace).toNat : Nat) : Int) = sgnV f neg r := by
  have e : magOf f r <<< (placeOf f r - b).toNat * 2 ^ (b - f.leastPlace).toNat = val f r := by
    unfold val
    rw [Nat.shiftLeft_eq, Nat.mul_assoc, ← Nat.pow_add]; congr 2; omega
  unfold Ieee.signed sgnV
  cases neg with
  | true => simp only [if_true]; rw [← e]; push_cast; rw [Int.neg_mul]
  | false => simp only [Bool.false_eq_true, if_false]; rw [← e]; push_cast; rfl
theorem compare_scale (a b : Int) {k : Nat} (hk : 0 < k) : compare (a * (k : Int)) (b * (k : Int)) = compare a b := by
  have hk : (0 : Int) < (k : Int) := by omega
  rcases Int.lt_trichotomy a b with h | h | h
  · have h1 : a * (k : Int) < b * (k : Int) := Int.mul_lt_mul_of_pos_right h hk
    rw [show compare a b = .lt from by simp [compare, compareOfLessAndEq, h], show compare (a * (k : Int)) (b * (k : Int)) = .lt from by simp [compare, compareOfLessAndEq, h1]]
  · subst h; simp [compare, compareOfLessAndEq]
  · have h1 : b * (k : Int) < a * (k : Int) := Int.mul_lt_mul_of_pos_right h hk
    have n1 : ¬ a < b := by omega
    have n2 : ¬ a = b := by omega
    have n3 : ¬ a * (k : Int) < b * (k : Int) := by omega
    have n4 : ¬ a * (k : Int) = b * (k : Int) := by omega
    simp [compare, compareOfLessAndEq, n1, n2, n3, n4]
theorem compare_sgn (f : Format) (s t : Bool) (r q : Nat) : compare (sgnV f s r) (sgnV f t q) = compare (if s = true then -((r : Nat) : Int) else (r : Int)) (if t = true then -((q : Nat) : Int) else (q : Int)) := by
  have key : ∀ a b c d : Int, (a < b ↔ c < d) → (a = b ↔ c = d) → compare a b = compare c d := fun a b c d h1 h2 => by
    simp only [compare, compareOfLessAndEq, h1, h2]
  have lt : ∀ r q, val f r < val f q ↔ r < q := fun r q => ⟨fun h => by
    rcases Nat.lt_or_ge r q with h1 | h1
    · exact h1
    · rcases Nat.lt_or_eq_of_le h1 with h2 | h2
      · have := val_lt f h2; omega
      · subst h2; omega, fun h => val_lt f h⟩
  have eq : ∀ r q, val f r = val f q ↔ r = q := fun r q => ⟨val_inj f, fun h => by rw [h]⟩
  have z : ∀ r, val f r = 0 ↔ r = 0 := fun r => by have := eq r 0; rw [val_zero] at this; exact this
  unfold sgnV
  have l1 := lt r q; have l2 := lt q r; have e1 := eq r q; have z1 := z r; have z2 := z q
  cases s <;> cases t <;> simp only [if_true, Bool.false_eq_true, if_false] <;> apply key <;> omega
theorem order_fin (f : Format) (s t : Bool) (r q : Nat) : (Datum.number s (magOf f r) (placeOf f r)).order (.number t (magOf f q) (placeOf f q)) =
    some (compare (if s = true then -((r : Nat) : Int) else (r : Int)) (if t = true then -((q : Nat) : Int) else (q : Int))) := by
  have h1 := place_ge f r
  have h2 := place_ge f q
  show some _ = some _
  congr 1
  rw [← compare_sgn f s t r q, ← signed_val f s r (b := min (placeOf f r) (placeOf f q)) (by omega) (by omega), ← signed_val f t q (b := min (placeOf f r) (placeOf f q)) (by omega) (by omega)]
  exact (compare_scale _ _ (Nat.two_pow_pos _)).symm
theorem cmp_lt {a b : Int} (h : a < b) : compare a b = .lt := by simp [compare, compareOfLessAndEq, h]
theorem cmp_eq {a b : Int} (h : a = b) : compare a b = .eq := by subst h; simp [compare, compareOfLessAndEq]
theorem cmp_gt {a b : Int} (h : b < a) : compare a b = .gt := by
  have n1 : ¬ a < b := by omega
  have n2 : ¬ a = b := by omega
  simp [compare, compareOfLessAndEq, n1, n2]
theorem sgn_lt (s t : Bool) {r q : Nat} (h : r < q) : compare (if s = true then -((r : Nat) : Int) else (r : Int)) (if t = true then -((q : Nat) : Int) else (q : Int)) = if t then .gt else .lt := by
  cases s <;> cases t <;> simp only [if_true, Bool.false_eq_true, if_false] <;> first | exact cmp_lt (by omega) | exact cmp_gt (by omega)
theorem sgn_gt (s t : Bool) {r q : Nat} (h : q < r) : compare (if s = true then -((r : Nat) : Int) else (r : Int)) (if t = true then -((q : Nat) : Int) else (q : Int)) = if s then .lt else .gt := by
  cases s <;> cases t <;> simp only [if_true, Bool.false_eq_true, if_false] <;> first | exact cmp_lt (by omega) | exact cmp_gt (by omega)
theorem sgn_same (s t : Bool) {r : Nat} (h : 0 < r) : compare (if s = true then -((r : Nat) : Int) else (r : Int)) (if t = true then -((r : Nat) : Int) else (r : Int)) = compare t.toNat s.toNat := by
  cases s <;> cases t <;> simp only [if_true, Bool.false_eq_true, if_false]
  · rw [cmp_eq rfl]; rfl
  · rw [cmp_gt (by omega)]; rfl
  · rw [cmp_lt (by omega)]; rfl
  · rw [cmp_eq rfl]; rfl
/-- the order of words -/
theorem order_key (f : Format) (he : 2 ≤ f.exponentBits) {x y : Nat} (hx : x % f.signWeight ≤ f.infRung) (hy : y % f.signWeight ≤ f.infRung) : f.order x y = some (compare (keyOf f x) (keyOf f y)) := by
  have hb := binade_le f he
  have hp := binade_pos f
  unfold Format.order keyOf
  rcases Nat.lt_or_eq_of_le hx with h1 | h1 <;> rcases Nat.lt_or_eq_of_le hy with h2 | h2
  · rw [read_fin f h1, read_fin f h2, order_fin]
  · rw [read_fin f h1, read_inf f he h2, sgn_lt _ _ (by omega)]; rfl
  · rw [read_inf f he h1, read_fin f h2, sgn_gt _ _ (by omega)]; rfl
  · rw [read_inf f he h1, read_inf f he h2, h1, h2, sgn_same _ _ (by omega)]; rfl
theorem order_none (f : Format) (he : 2 ≤ f.exponentBits) {x y : Nat} (h : f.infRung < x % f.signWeight ∨ f.infRung < y % f.signWeight) : f.order x y = none := by
  unfold Format.order
  rcases h with h | h
  · rw [read_nan f he h]; rfl
  · rw [read_nan f he h]; cases f.read x <;> rfl
end Go.Sx
