/- Texts that a claim needs, put together: the engine, plain lemmas, contracts. No condition. -/
import Derived.Test.YtnodelimomljbaaMgd
import Derived.Test.YtnodelimomljbaaMgb
import Derived.KernelRfl

/- Rounding: what is left over counts once; quotients and roots with more digits. No condition. -/
namespace Go.Sx.Ref
set_option linter.unusedVariables false
open Go Go.Sx Ieee
theorem rne_sticky {q s k b : Nat} (hs : 0 < s) (hk : s < 2 ^ k) (hb : 1 ≤ b) : rne (q * 2 ^ k + s) (k + b) = rne (2 * q + 1) (b + 1) := by
  obtain ⟨P, hP⟩ : ∃ P, 2 ^ k = P := ⟨_, rfl⟩
  obtain ⟨H, hH⟩ : ∃ H, 2 ^ b = 2 * H := ⟨2 ^ (b - 1), by rw [Nat.mul_comm, ← Nat.pow_succ]; congr 1; omega⟩
  have hP0 : 0 < P := by rw [← hP]; exact Nat.two_pow_pos k
  have hH0 : 0 < H := by have := Nat.two_pow_pos b; omega
  rw [hP] at hk
  have d1 : (q * P + s) / P = q := by rw [Nat.mul_comm, Nat.mul_add_div hP0, Nat.div_eq_of_lt hk, Nat.add_zero]
  have m1 : (q * P + s) % P = s := by rw [Nat.mul_comm, Nat.mul_add_mod, Nat.mod_eq_of_lt hk]
  have d2 : (2 * q + 1) / 2 = q := by omega
  have m2 : (2 * q + 1) % 2 = 1 := by omega
  have e1 : (2 : Nat) ^ (k + b) = P * (2 * H) := by rw [Nat.pow_add, hP, hH]
  have e2 : (2 : Nat) ^ (b + 1) = 2 * (2 * H) := by rw [Nat.pow_succ, hH, Nat.mul_comm]
  have m3 : (q * P + s) % (P * (2 * H)) = s + P * (q % (2 * H)) := by rw [Nat.mod_mul, d1, m1]
  have m4 : (2 * q + 1) % (2 * (2 * H)) = 1 + 2 * (q % (2 * H)) := by rw [Nat.mod_mul, d2, m2]
  unfold rne
  rw [e1, e2, hP, ← Nat.div_div_eq_div_mul (q * P + s) P (2 * H), ← Nat.div_div_eq_div_mul (2 * q + 1) 2 (2 * H), d1, d2, m3, m4]
  congr 1
  obtain ⟨h, hh⟩ : ∃ h, q % (2 * H) = h := ⟨_, rfl⟩
  rw [hh]
  have key : P * (2 * H) = 2 * (P * H) := by rw [← Nat.mul_assoc, Nat.mul_comm P 2, Nat.mul_assoc]
  rw [key]
  rcases Nat.lt_or_ge h H with hl | hl
  · have h1 : P * h + P ≤ P * H := by have := Nat.mul_le_mul_left P (show h + 1 ≤ H from hl); rwa [Nat.mul_add, Nat.mul_one] at this
    rw [if_neg (by omega), if_neg (by omega)]
  · have h1 := Nat.mul_le_mul_left P hl
    rw [if_pos (by omega), if_pos (by omega)]
theorem log2_more {q s k : Nat} (hq : q ≠ 0) (hk : s < 2 ^ k) : (q * 2 ^ k + s).log2 = q.log2 + k := by
  have hp := Nat.two_pow_pos k
  have hn : q * 2 ^ k + s ≠ 0 := by
    have := Nat.mul_le_mul_right (2 ^ k) (show 1 ≤ q by omega)
    omega
  rw [Nat.log2_eq_iff hn, Nat.pow_add, show q.log2 + k + 1 = (q.log2 + 1) + k by omega, Nat.pow_add]
  have h1 := Nat.mul_le_mul_right (2 ^ k) (Nat.log2_self_le hq)
  have h2 := Nat.mul_le_mul_right (2 ^ k) (show q + 1 ≤ 2 ^ (q.log2 + 1) from Nat.lt_log2_self)
  rw [Nat.add_mul] at h2
  omega
theorem rung_sticky (f : Format) {q s k : Nat} (e : Int) (hs : 0 < s) (hk : s < 2 ^ k) (hq : 2 ^ (f.fractionBits + 1) ≤ q) : rungOf f (q * 2 ^ k + s) e = rungOf f (2 * q + 1) (e + k - 1) := by
  have hq0 : q ≠ 0 := by have := Nat.two_pow_pos (f.fractionBits + 1); omega
  have L1 := log2_more hq0 hk
  have L2 : (2 * q + 1).log2 = q.log2 + 1 := by
    have := log2_more (q := q) (s := 1) (k := 1) hq0 (by decide)
    rw [Nat.pow_one, Nat.mul_comm] at this
    exact this
  have hL : f.fractionBits + 1 ≤ q.log2 := (Nat.le_log2 hq0).2 hq
  have hl : lastP f (q * 2 ^ k + s) e = lastP f (2 * q + 1) (e + k - 1) := by
    unfold lastP; rw [L1, L2]; omega
  have hge : e + k + q.log2 - f.fractionBits ≤ lastP f (2 * q + 1) (e + k - 1) := by
    unfold lastP; rw [L2]; omega
  unfold rungOf
  rw [if_neg (by omega), if_neg (by omega), hl]
  obtain ⟨l, hl'⟩ : ∃ l, lastP f (2 * q + 1) (e + k - 1) = l := ⟨_, rfl⟩
  rw [hl'] at hge ⊢
  have hkept : kept (q * 2 ^ k + s) e l = kept (2 * q + 1) (e + k - 1) l := by
    obtain ⟨b, hb⟩ : ∃ b : Nat, l - e - k = b := ⟨(l - e - k).toNat, by omega⟩
    unfold kept
    rw [show (e - l).toNat = 0 by omega, show (e + k - 1 - l).toNat = 0 by omega, show (l - e).toNat = k + b by omega, show (l - (e + k - 1)).toNat = b + 1 by omega, Nat.shiftLeft_zero, Nat.shiftLeft_zero]
    exact rne_sticky hs hk (by omega)
  rw [hkept]
theorem rung_up (f : Format) (m k : Nat) (e : Int) : rungOf f (m * 2 ^ k) e = rungOf f m (e + k) := by
  have := rung_scale f m k (e + k)
  rwa [show e + (k : Int) - k = e by omega] at this
/-! ### quotients -/
def quoR (f : Format) (m n a : Nat) (e : Int) : Nat := rungOf f (2 * (m * 2 ^ a / n) + (if m * 2 ^ a % n = 0 then 0 else 1)) (e - a - 1)
theorem quo_more (f : Format) {m n a : Nat} (k : Nat) (e : Int) (hn : 0 < n) (hq : 2 ^ (f.fractionBits + 1) ≤ m * 2 ^ a / n) : quoR f m n (a + k) e = quoR f m n a e := by
  unfold quoR
  obtain ⟨X, hX⟩ : ∃ X, m * 2 ^ a = X := ⟨_, rfl⟩
  have hX2 : m * 2 ^ (a + k) = X * 2 ^ k := by rw [Nat.pow_add, ← Nat.mul_assoc, hX]
  rw [hX2, hX]
  rw [hX] at hq
  obtain ⟨Q, hQ⟩ : ∃ Q, X / n = Q := ⟨_, rfl⟩
  obtain ⟨R, hR⟩ : ∃ R, X % n = R := ⟨_, rfl⟩
  have hRn : R < n := by rw [← hR]; exact Nat.mod_lt _ hn
  have hXQ : X = n * Q + R := by rw [← hQ, ← hR]; exact (Nat.div_add_mod X n).symm
  have hY : X * 2 ^ k = n * (Q * 2 ^ k) + R * 2 ^ k := by rw [hXQ, Nat.add_mul, Nat.mul_assoc]
  rw [hQ] at hq
  rw [hQ, hR, hY, Nat.mul_add_div hn, Nat.mul_add_mod]
  by_cases h0 : R = 0
  · rw [h0, Nat.zero_mul, Nat.zero_div, Nat.zero_mod, if_pos rfl, Nat.add_zero, Nat.add_zero, Nat.add_zero, ← Nat.mul_assoc, rung_up]
    congr 1
    omega
  · rw [if_neg h0]
    obtain ⟨t, ht⟩ : ∃ t, R * 2 ^ k / n = t := ⟨_, rfl⟩
    obtain ⟨w, hw⟩ : ∃ w, R * 2 ^ k % n = w := ⟨_, rfl⟩
    have hp := Nat.two_pow_pos k
    have htk : t < 2 ^ k := by
      rw [← ht]
      exact (Nat.div_lt_iff_lt_mul hn).2 (by rw [Nat.mul_comm (2 ^ k)]; exact Nat.mul_lt_mul_of_pos_right hRn hp)
    have hpos : ¬ (t = 0 ∧ w = 0) := by
      rintro ⟨h1, h2⟩
      have h3 := Nat.div_add_mod (R * 2 ^ k) n
      rw [ht, hw, h1, h2, Nat.mul_zero] at h3
      rcases Nat.mul_eq_zero.1 h3.symm with h | h <;> omega
    rw [ht, hw]
    obtain ⟨st, hst⟩ : ∃ st, (if w = 0 then 0 else 1) = st := ⟨_, rfl⟩
    have hst1 : st ≤ 1 ∧ (w ≠ 0 → st = 1) := by rw [← hst]; split <;> omega
    rw [hst]
    have e1 : 2 * (Q * 2 ^ k + t) + st = Q * 2 ^ (k + 1) + (2 * t + st) := by rw [Nat.pow_succ, ← Nat.mul_assoc]; omega
    rw [e1, rung_sticky f _ (by omega) (by rw [Nat.pow_succ]; omega) hq]
    congr 1
    omega
theorem quo_same (f : Format) {m n a b : Nat} (e : Int) (hn : 0 < n) (ha : 2 ^ (f.fractionBits + 1) ≤ m * 2 ^ a / n) (hb : 2 ^ (f.fractionBits + 1) ≤ m * 2 ^ b / n) : quoR f m n a e = quoR f m n b e := by
  rcases Nat.le_total a b with h | h
  · have := quo_more f (b - a) e hn ha
    rw [show a + (b - a) = b by omega] at this
    exact this.symm
  · have := quo_more f (a - b) e hn hb
    rwa [show b + (a - b) = a by omega] at this
/-! ### roots -/
def IsRoot (N r : Nat) : Prop := r * r ≤ N ∧ N < (r + 1) * (r + 1)
def rootR (f : Format) (N r : Nat) (e : Int) : Nat := rungOf f (2 * r + (if r * r = N then 0 else 1)) (e - 1)
theorem sq_lt {a b : Nat} (h : a * a < b * b) : a < b := by
  rcases Nat.lt_or_ge a b with g | g
  · exact g
  · have := Nat.mul_le_mul g g; omega
theorem root_more (f : Format) {N r r' : Nat} (k : Nat) (e : Int) (h : IsRoot N r) (h' : IsRoot (N * 2 ^ (2 * k)) r') (hr : 2 ^ (f.fractionBits + 1) ≤ r) : rootR f (N * 2 ^ (2 * k)) r' (e - k) = rootR f N r e := by
  have hp := Nat.two_pow_pos k
  obtain ⟨P, hP⟩ : ∃ P, 2 ^ k = P := ⟨_, rfl⟩
  have hP2 : 2 ^ (2 * k) = P * P := by rw [← hP, ← Nat.pow_add]; congr 1; omega
  rw [hP2] at h' ⊢
  rw [hP] at hp
  have sq : ∀ a : Nat, a * P * (a * P) = a * a * (P * P) := fun a => by rw [Nat.mul_assoc, ← Nat.mul_assoc P, Nat.mul_comm P a, Nat.mul_assoc a P, ← Nat.mul_assoc]
  have lo : r * P < r' + 1 := sq_lt (Nat.lt_of_le_of_lt (by rw [sq]; exact Nat.mul_le_mul_right _ h.1) h'.2)
  have hi : r' < (r + 1) * P := sq_lt (Nat.lt_of_le_of_lt h'.1 (by rw [sq]; exact Nat.mul_lt_mul_of_pos_right h.2 (Nat.mul_pos hp hp)))
  obtain ⟨t, ht⟩ : ∃ t, r' = r * P + t := ⟨r' - r * P, by omega⟩
  rw [Nat.add_mul] at hi
  unfold rootR
  by_cases h0 : r * r = N
  · have e0 : r' = r * P := by
      have h1 : r' * r' ≤ r * P * (r * P) := by rw [sq, h0]; exact h'.1
      have : r' < r * P + 1 := sq_lt (Nat.lt_of_le_of_lt h1 (Nat.mul_lt_mul'' (Nat.lt_succ_self _) (Nat.lt_succ_self _)))
      omega
    rw [if_pos h0, if_pos (by rw [e0, sq, h0]), e0, ← hP, Nat.add_zero, Nat.add_zero, ← Nat.mul_assoc, rung_up]
    congr 1
    omega
  · rw [if_neg h0]
    obtain ⟨st, hst⟩ : ∃ st, (if r' * r' = N * (P * P) then 0 else 1) = st := ⟨_, rfl⟩
    have hst1 : st ≤ 1 ∧ (r' * r' ≠ N * (P * P) → st = 1) := by rw [← hst]; split <;> omega
    have hpos : 0 < 2 * t + st := by
      by_cases ht0 : t = 0
      · have : r' * r' ≠ N * (P * P) := fun g => h0 (by
          rw [ht, ht0, Nat.add_zero, sq] at g
          exact Nat.eq_of_mul_eq_mul_right (Nat.mul_pos hp hp) g)
        have := hst1.2 this
        omega
      · omega
    rw [hst, ht]
    have e1 : 2 * (r * P + t) + st = r * 2 ^ (k + 1) + (2 * t + st) := by rw [Nat.pow_succ, ← Nat.mul_assoc, hP]; omega
    rw [e1, rung_sticky f _ hpos (by rw [Nat.pow_succ, hP]; omega) hr]
    congr 1
    omega
/-! ### sums -/
/-- two numbers added, as their signs are -/
def sumX (f : Format) (s : Bool) (A : Nat) (t : Bool) (B : Nat) (e : Int) : Int :=
  if s = t then wordI f s (rungOf f (A + B) e) else if A < B then wordI f t (rungOf f (B - A) e) else if A = B then 0 else wordI f s (rungOf f (A - B) e)
theorem sumX_comm (f : Format) (s t : Bool) (A B : Nat) (e : Int) : sumX f s A t B e = sumX f t B s A e := by
  unfold sumX
  by_cases h : s = t
  · subst h; rw [if_pos rfl, if_pos rfl, Nat.add_comm]
  · rw [if_neg h, if_neg (show ¬ t = s from fun g => h g.symm)]
    rcases Nat.lt_trichotomy A B with g | g | g
    · rw [if_pos g, if_neg (by omega), if_neg (by omega)]
    · rw [if_neg (by omega), if_pos g, if_neg (by omega), if_pos g.symm]
    · rw [if_neg (by omega), if_neg (by omega), if_pos g]
theorem sumX_up (f : Format) (s t : Bool) (A B k : Nat) (e : Int) : sumX f s (A * 2 ^ k) t (B * 2 ^ k) e = sumX f s A t B (e + k) := by
  have hp := Nat.two_pow_pos k
  unfold sumX
  rw [← Nat.add_mul, ← Nat.sub_mul, ← Nat.sub_mul, rung_up, rung_up, rung_up]
  have h1 : A * 2 ^ k < B * 2 ^ k ↔ A < B := ⟨fun h => Nat.lt_of_mul_lt_mul_right h, fun h => Nat.mul_lt_mul_of_pos_right h hp⟩
  have h2 : A * 2 ^ k = B * 2 ^ k ↔ A = B := ⟨fun h => Nat.eq_of_mul_eq_mul_right hp h, fun h => by rw [h]⟩
  simp only [h1, h2]
theorem word_int' (f : Format) (s : Bool) (r : Nat) : ((f.word s r : Nat) : Int) = wordI f s r := by
  unfold Format.word wordI
  cases s <;> simp
theorem sum_num (f : Format) (s t : Bool) (m n : Nat) (i j b : Int) (hb : b = min i j) :
    ∃ r : Nat, ((Datum.number s m i).sum (.number t n j)).map f.write = some r ∧ (r : Int) = sumX f s (m * 2 ^ (i - b).toNat) t (n * 2 ^ (j - b).toNat) b := by
  subst hb
  simp only [Datum.sum, Option.map]
  refine ⟨_, rfl, ?_⟩
  obtain ⟨A, hA⟩ : ∃ A, m * 2 ^ (i - min i j).toNat = A := ⟨_, rfl⟩
  obtain ⟨B, hB⟩ : ∃ B, n * 2 ^ (j - min i j).toNat = B := ⟨_, rfl⟩
  have sA : Ieee.signed s m (i - min i j).toNat = if s then -(A : Int) else (A : Int) := by unfold Ieee.signed; rw [Nat.shiftLeft_eq, hA]
  have sB : Ieee.signed t n (j - min i j).toNat = if t then -(B : Int) else (B : Int) := by unfold Ieee.signed; rw [Nat.shiftLeft_eq, hB]
  rw [sA, sB, hA, hB]
  show ((f.nearest _ _ _ : Nat) : Int) = _
  rw [nearest_rung, word_int']
  clear sA sB hA hB
  obtain ⟨T, hT⟩ : ∃ T, (if s = true then -(A : Int) else (A : Int)) + (if t = true then -(B : Int) else (B : Int)) = T := ⟨_, rfl⟩
  rw [hT]
  have fin : ∀ (neg : Bool) (N : Nat), (if T = 0 then (s && t) else decide (T < 0)) = neg → T.natAbs = N → wordI f (if T = 0 then (s && t) else decide (T < 0)) (rungOf f T.natAbs (min i j)) = wordI f neg (rungOf f N (min i j)) := fun neg N h1 h2 => by rw [h1, h2]
  have sg : ∀ b : Bool, T ≠ 0 → (T < 0 ↔ b = true) → (if T = 0 then (s && t) else decide (T < 0)) = b := fun b h0 hb => by
    rw [if_neg h0]
    cases b
    · exact decide_eq_false (fun h => by have := hb.1 h; contradiction)
    · exact decide_eq_true (hb.2 rfl)
  unfold sumX
  by_cases h : s = t
  · subst h
    rw [if_pos rfl]
    refine fin _ _ ?_ (by cases s <;> simp at hT <;> omega)
    by_cases h0 : T = 0
    · rw [if_pos h0, Bool.and_self]
    · exact sg _ h0 (by cases s <;> simp at hT ⊢ <;> omega)
  · rw [if_neg h]
    have ht : t = !s := by cases s <;> cases t <;> simp_all
    subst ht
    rcases Nat.lt_trichotomy A B with g | g | g
    · rw [if_pos g]
      exact fin _ _ (sg _ (by cases s <;> simp at hT <;> omega) (by cases s <;> simp at hT ⊢ <;> omega)) (by cases s <;> simp at hT <;> omega)
    · rw [if_neg (show ¬ A < B by omega), if_pos g]
      have h0 : T = 0 := by cases s <;> simp at hT <;> omega
      rw [h0]
      cases s <;> simp [wordI, rungOf]
    · rw [if_neg (show ¬ A < B by omega), if_neg (show ¬ A = B by omega)]
      exact fin _ _ (sg _ (by cases s <;> simp at hT <;> omega) (by cases s <;> simp at hT ⊢ <;> omega)) (by cases s <;> simp at hT <;> omega)
/-- the code's sum is the sum -/
theorem sumO_eq (f : Format) (na nb : Bool) (ma mb : Nat) (ea eb b : Int) (hb : b = min ea eb) (hF : f.fractionBits ≤ 52) (h0 : ma ≠ 0) (hle : mb = 0 ∨ eb ≤ ea) (hmb : mb < 9007199254740992) (hfar : 70 < ea - eb → 2 ^ f.fractionBits ≤ ma) :
    sumO f na ma ea nb mb eb = sumX f na (ma * 2 ^ (ea - b).toNat) nb (mb * 2 ^ (eb - b).toNat) b := by
  by_cases hm0 : mb = 0
  · subst hm0
    have h1 : sumX f na (ma * 2 ^ (ea - b).toNat) nb (0 * 2 ^ (eb - b).toNat) b = sumX f na ma nb 0 ea := by
      have := sumX_up f na nb ma 0 (ea - b).toNat b
      rw [Nat.zero_mul] at this ⊢
      rw [this]; congr 1; omega
    rw [h1]
    simp [sumO, sumX]
  · have hle := hle.resolve_left hm0
    obtain ⟨d, hd⟩ : ∃ d : Nat, ea - eb = d := ⟨(ea - eb).toNat, by omega⟩
    have hbe : b = eb := by omega
    subst hbe
    rw [hd, Int.toNat_natCast, show b - b = (0 : Int) by omega, show (0 : Int).toNat = 0 from rfl, Nat.pow_zero, Nat.mul_one]
    unfold sumO
    rw [hd]
    simp only
    by_cases h70 : d ≤ 70
    · have c : decide (mb ≠ 0 ∧ (70 : Int) < (d : Int)) = false := by simp; omega
      rw [c]
      simp only [hm0, if_false, Bool.false_eq_true, Int.toNat_natCast]
      rw [show ea - (d : Int) = b by omega]
      rfl
    · have c : decide (mb ≠ 0 ∧ (70 : Int) < (d : Int)) = true := by simp; omega
      have hma := hfar (by omega)
      rw [c]
      simp only [hm0, if_false, if_true]
      have hp70 : (2 : Nat) ^ 70 = 4 * 2 ^ 68 := by decide
      obtain ⟨c, hc⟩ : ∃ c, d = c + 2 := ⟨d - 2, by omega⟩
      have hpd : (2 : Nat) ^ d = 4 * 2 ^ c := by rw [hc, Nat.pow_add, Nat.mul_comm]
      have hpc : (2 : Nat) ^ 69 ≤ 2 ^ c := Nat.pow_le_pow_right (by decide) (by omega)
      have h69 : (2 : Nat) ^ 69 = 590295810358705651712 := by decide
      have h68 : (2 : Nat) ^ 68 = 295147905179352825856 := by decide
      have hq : 2 ^ (f.fractionBits + 1) ≤ 4 * ma - 1 := by
        rw [Nat.pow_succ]
        have := Nat.two_pow_pos f.fractionBits
        omega
      have e1 : ma * 2 ^ d = 4 * ma * 2 ^ c := by rw [hpd, ← Nat.mul_assoc, Nat.mul_comm ma 4]
      have e2 : ma * 2 ^ 70 = 4 * ma * 2 ^ 68 := by rw [hp70, ← Nat.mul_assoc, Nat.mul_comm ma 4]
      have g1 : 2 ^ c ≤ ma * 2 ^ d := by rw [e1]; exact Nat.le_mul_of_pos_left _ (by omega)
      have g2 : 2 ^ 68 ≤ ma * 2 ^ 70 := by rw [e2]; exact Nat.le_mul_of_pos_left _ (by omega)
      have plus : rungOf f (ma * 2 ^ 70 + 1) (ea - (70 : Nat)) = rungOf f (ma * 2 ^ d + mb) b := by
        rw [e1, e2, rung_sticky f _ (by omega) (by omega) (show 2 ^ (f.fractionBits + 1) ≤ 4 * ma by omega), rung_sticky f _ (by omega) (by omega) (show 2 ^ (f.fractionBits + 1) ≤ 4 * ma by omega)]
        congr 1
        omega
      have sub : ∀ (C k m : Nat), 0 < m → m < 2 ^ k → 0 < C → C * 2 ^ k - m = (C - 1) * 2 ^ k + (2 ^ k - m) := fun C k m h1 h2 h3 => by
        rw [Nat.sub_mul, Nat.one_mul]
        have := Nat.le_mul_of_pos_left (2 ^ k) h3
        omega
      have minus : rungOf f (ma * 2 ^ 70 - 1) (ea - (70 : Nat)) = rungOf f (ma * 2 ^ d - mb) b := by
        rw [e1, e2, sub _ _ 1 (by omega) (by omega) (by omega), sub _ _ mb (by omega) (by omega) (by omega), rung_sticky f _ (by omega) (by omega) hq, rung_sticky f _ (by omega) (by omega) hq]
        congr 1
        omega
      rw [plus, minus]
      unfold sumX
      rw [if_neg (show ¬ ma * 2 ^ 70 < 1 by omega), if_neg (show ¬ ma * 2 ^ 70 = 1 by omega), if_neg (show ¬ ma * 2 ^ d < mb by omega), if_neg (show ¬ ma * 2 ^ d = mb by omega)]
theorem sumC_eq (f : Format) (na nb : Bool) (ma mb : Nat) (ea eb b : Int) (hb : b = min ea eb) (hF : f.fractionBits ≤ 52) (hma : ma < 9007199254740992) (hmb : mb < 9007199254740992) (h1 : 70 < ea - eb → 2 ^ f.fractionBits ≤ ma) (h2 : 70 < eb - ea → 2 ^ f.fractionBits ≤ mb) :
    sumC f na ma ea nb mb eb = sumX f na (ma * 2 ^ (ea - b).toNat) nb (mb * 2 ^ (eb - b).toNat) b := by
  unfold sumC
  by_cases hz : ma = 0 ∧ mb = 0
  · rw [if_pos hz]
    obtain ⟨rfl, rfl⟩ := hz
    rw [Nat.zero_mul, Nat.zero_mul]
    unfold sumX
    cases na <;> cases nb <;> simp [wordI, rungOf]
  · rw [if_neg hz]
    by_cases hs : ma = 0 ∨ (mb ≠ 0 ∧ ea < eb)
    · rw [if_pos hs, sumO_eq f nb na mb ma eb ea b (by omega) hF (by omega) (by omega) hma h2, sumX_comm]
    · rw [if_neg hs, sumO_eq f na nb ma mb ea eb b hb hF (by omega) (by omega) hmb h1]
end Go.Sx.Ref

/- Whole parts of floats. No condition. -/
namespace Go.Sx
open Ieee

/-- whether one more is taken, of n / 2^d -/
def upBit (way : Toward) (neg : Bool) (n d : Nat) : Bool := match way with
  | .even => decide (2 ^ d < 2 * (n % 2 ^ d)) || (2 ^ d == 2 * (n % 2 ^ d) && n / 2 ^ d % 2 == 1)
  | .down => neg && n % 2 ^ d != 0
  | .up => !neg && n % 2 ^ d != 0
  | .zero => false
theorem cut_eq (way : Toward) (neg : Bool) (n d : Nat) : way.cut neg n d = n / 2 ^ d + (upBit way neg n d).toNat := by
  unfold Toward.cut
  have hlt : n < 2 ^ (n.log2 + 1) := Nat.lt_log2_self
  by_cases h : d ≤ n.log2 + 2
  · rw [Nat.min_eq_left h]
    simp only [Nat.one_shiftLeft]
    cases way <;> rfl
  · rw [Nat.min_eq_right (by omega)]
    simp only [Nat.one_shiftLeft]
    have e : 2 ^ (n.log2 + 2) = 2 * 2 ^ (n.log2 + 1) := by rw [Nat.pow_succ]; omega
    have h1 : n / 2 ^ (n.log2 + 2) = 0 := Nat.div_eq_of_lt (by omega)
    have h2 : n % 2 ^ (n.log2 + 2) = n := Nat.mod_eq_of_lt (by omega)
    have h3 : 2 ^ (n.log2 + 2) ≤ 2 ^ d := Nat.pow_le_pow_right (by decide) (by omega)
    have h4 : n / 2 ^ d = 0 := Nat.div_eq_of_lt (by omega)
    have h5 : n % 2 ^ d = n := Nat.mod_eq_of_lt (by omega)
    rw [h1, h2, h4]
    unfold upBit
    rw [h5, h4]
    congr 2
    cases way <;> simp
    omega
theorem upBit_rem {way : Toward} {neg : Bool} {n d : Nat} (h : upBit way neg n d = true) : n % 2 ^ d ≠ 0 := by
  have := Nat.two_pow_pos d
  unfold upBit at h
  cases way <;> simp at h
  · omega
  · exact h.2
  · exact h.2

/-- a number of few digits is as it is -/
theorem val_exact (f : Format) {n : Nat} {e : Int} (hn : n < 2 * f.binade) (he : f.leastPlace ≤ e) (hfit : ((e - f.leastPlace).toNat + 2) * f.binade ≤ f.infRung) :
    val f (rungOf f n e) = n * 2 ^ (e - f.leastPlace).toNat ∧ rungOf f n e < f.infRung + (if n = 0 then 1 else 0) := by
  have hb := binade_pos f
  have eb : f.binade = 2 ^ f.fractionBits := rfl
  by_cases h0 : n = 0
  · subst h0
    unfold rungOf
    simp [val_zero]
  · rw [if_neg h0]
    have hl1 : 2 ^ n.log2 ≤ n := Nat.log2_self_le h0
    have hl2 : n < 2 ^ (n.log2 + 1) := Nat.lt_log2_self
    have hlg : n.log2 ≤ f.fractionBits := by
      have := (Nat.log2_lt h0 (k := f.fractionBits + 1)).2 (by rw [Nat.pow_succ, ← eb]; omega)
      omega
    unfold rungOf
    rw [if_neg h0]
    by_cases hc : f.leastPlace ≤ e + n.log2 - f.fractionBits
    · have hL : lastP f n e = e + n.log2 - f.fractionBits := by unfold lastP; omega
      rw [hL]
      have hk : kept n e (e + n.log2 - f.fractionBits) = n * 2 ^ (f.fractionBits - n.log2) := by
        unfold kept
        rw [show (e + (n.log2 : Int) - f.fractionBits - e).toNat = 0 by omega, rne_zero, Nat.shiftLeft_eq]
        congr 2; omega
      rw [hk]
      have b1 : f.binade ≤ n * 2 ^ (f.fractionBits - n.log2) := by
        have : f.binade = 2 ^ n.log2 * 2 ^ (f.fractionBits - n.log2) := by rw [eb, ← Nat.pow_add]; congr 1; omega
        rw [this]; exact Nat.mul_le_mul_right _ hl1
      have b2 : n * 2 ^ (f.fractionBits - n.log2) < 2 * f.binade := by
        have : 2 * f.binade = 2 ^ (n.log2 + 1) * 2 ^ (f.fractionBits - n.log2) := by rw [eb, ← Nat.pow_succ', ← Nat.pow_add]; congr 1; omega
        rw [this]; exact Nat.mul_lt_mul_of_pos_right hl2 (Nat.two_pow_pos _)
      have hp : n * 2 ^ (f.fractionBits - n.log2) * 2 ^ (e + (n.log2 : Int) - f.fractionBits - f.leastPlace).toNat = n * 2 ^ (e - f.leastPlace).toNat := by
        rw [Nat.mul_assoc, ← Nat.pow_add]; congr 2; omega
      rw [← hp]
      have hq : (e + (n.log2 : Int) - f.fractionBits - f.leastPlace).toNat ≤ (e - f.leastPlace).toNat := by omega
      generalize (e + (n.log2 : Int) - f.fractionBits - f.leastPlace).toNat = p at *
      generalize (e - f.leastPlace).toNat = q at *
      generalize n * 2 ^ (f.fractionBits - n.log2) = z at *
      have h3 : (p + 2) * f.binade ≤ (q + 2) * f.binade := Nat.mul_le_mul_right _ (by omega)
      rw [Nat.add_mul] at h3
      have h4 : p * f.binade + z < f.infRung := by omega
      rw [Nat.min_eq_left (by omega)]
      refine ⟨?_, by omega⟩
      rw [val_eq, if_neg (by omega)]
      have e1 : (p * f.binade + z) / f.binade = p + 1 := by
        rw [Nat.add_comm, Nat.add_mul_div_right _ _ hb]
        have : z / f.binade = 1 := by rw [Nat.div_eq_iff hb]; omega
        omega
      have e2 : (p * f.binade + z) % f.binade = z - f.binade := by
        have := Nat.div_add_mod (p * f.binade + z) f.binade
        rw [e1, Nat.mul_comm, Nat.succ_mul] at this
        omega
      rw [e1, e2]
      congr 1
      omega
    · have hL : lastP f n e = f.leastPlace := by unfold lastP; omega
      rw [hL]
      have hk : kept n e f.leastPlace = n * 2 ^ (e - f.leastPlace).toNat := by
        unfold kept
        rw [show (f.leastPlace - e).toNat = 0 by omega, rne_zero, Nat.shiftLeft_eq]
      rw [hk, Int.sub_self, Int.toNat_zero, Nat.zero_mul, Nat.zero_add]
      have b2 : n * 2 ^ (e - f.leastPlace).toNat < f.binade := by
        have h1 : n * 2 ^ (e - f.leastPlace).toNat < 2 ^ (n.log2 + 1) * 2 ^ (e - f.leastPlace).toNat := Nat.mul_lt_mul_of_pos_right hl2 (Nat.two_pow_pos _)
        rw [← Nat.pow_add] at h1
        have h2 : 2 ^ (n.log2 + 1 + (e - f.leastPlace).toNat) ≤ 2 ^ f.fractionBits := Nat.pow_le_pow_right (by decide) (by omega)
        omega
      have h3 : 2 * f.binade ≤ f.infRung := by
        have : 2 * f.binade ≤ ((e - f.leastPlace).toNat + 2) * f.binade := Nat.mul_le_mul_right _ (by omega)
        omega
      rw [Nat.min_eq_left (by omega)]
      refine ⟨?_, by omega⟩
      rw [val_eq, if_pos b2]

/-- the whole part of a finite word, as a sign and a rung -/
def wholeR (f : Format) (way : Toward) (s : Bool) (r : Nat) : Nat := if 0 ≤ placeOf f r then r else rungOf f (magOf f r / 2 ^ (-placeOf f r).toNat + (upBit way s (magOf f r) (-placeOf f r).toNat).toNat) 0
theorem write_whole (f : Format) (way : Toward) (s : Bool) {r : Nat} (h : r ≤ f.infRung) : f.write ((Datum.number s (magOf f r) (placeOf f r)).integral way) = f.word s (wholeR f way s r) := by
  unfold Datum.integral wholeR
  show f.nearest _ _ _ = _
  rw [nearest_rung]
  congr 1
  by_cases hp : 0 ≤ placeOf f r
  · rw [if_pos hp, show (-placeOf f r).toNat = 0 by omega, cut_eq]
    have hu : upBit way s (magOf f r <<< (placeOf f r).toNat) 0 = false := by
      cases hh : upBit way s (magOf f r <<< (placeOf f r).toNat) 0 with
      | false => rfl
      | true => have := upBit_rem hh; simp [Nat.mod_one] at this
    rw [hu, Nat.shiftLeft_eq]
    simp only [Nat.pow_zero, Nat.div_one, Bool.toNat_false, Nat.add_zero]
    have := rung_scale f (magOf f r) (placeOf f r).toNat (placeOf f r)
    rw [show placeOf f r - ((placeOf f r).toNat : Nat) = 0 by omega] at this
    rw [this, rung_back f h]
  · rw [if_neg hp, show (placeOf f r).toNat = 0 by omega, cut_eq, Nat.shiftLeft_zero]

/-- the format holds the whole numbers of its digits -/
def Fits (f : Format) : Prop := 2 ≤ f.exponentBits ∧ f.leastPlace ≤ 0 ∧ ((0 - f.leastPlace).toNat + 2) * f.binade ≤ f.infRung
theorem fits_single : Fits Ieee.single := by unfold Fits; decide
theorem fits_double : Fits Ieee.double := by unfold Fits; decide
theorem mag_lt (f : Format) (r : Nat) : magOf f r < 2 * f.binade := by
  unfold magOf
  have := binade_pos f
  have := Nat.mod_lt r this
  split <;> omega
section
variable {f : Format} (hf : Fits f) {way : Toward} {s : Bool} {r : Nat}
include hf
omit hf in
theorem whole_small (h : ¬ 0 ≤ placeOf f r) : magOf f r / 2 ^ (-placeOf f r).toNat + (upBit way s (magOf f r) (-placeOf f r).toNat).toNat ≤ f.binade := by
  have h1 := mag_lt f r
  have h2 : magOf f r / 2 ^ (-placeOf f r).toNat ≤ magOf f r / 2 := by
    have : 2 ^ 1 ≤ 2 ^ (-placeOf f r).toNat := Nat.pow_le_pow_right (by decide) (by omega)
    exact Nat.div_le_div_left this (by decide)
  have h3 : (upBit way s (magOf f r) (-placeOf f r).toNat).toNat ≤ 1 := Bool.toNat_le _
  omega
theorem whole_val (h : ¬ 0 ≤ placeOf f r) : val f (wholeR f way s r) = (magOf f r / 2 ^ (-placeOf f r).toNat + (upBit way s (magOf f r) (-placeOf f r).toNat).toNat) * 2 ^ (0 - f.leastPlace).toNat ∧ wholeR f way s r < f.infRung := by
  have hb := binade_pos f
  have h1 := whole_small (way := way) (s := s) h
  unfold wholeR
  rw [if_neg h]
  obtain ⟨v1, v2⟩ := val_exact f (n := magOf f r / 2 ^ (-placeOf f r).toNat + (upBit way s (magOf f r) (-placeOf f r).toNat).toNat) (e := 0) (by omega) hf.2.1 hf.2.2
  refine ⟨v1, ?_⟩
  by_cases h0 : magOf f r / 2 ^ (-placeOf f r).toNat + (upBit way s (magOf f r) (-placeOf f r).toNat).toNat = 0
  · rw [h0]; unfold rungOf; simp
    have := binade_le f hf.1; omega
  · rw [if_neg h0] at v2; omega
theorem whole_lt (h : r < f.infRung) : wholeR f way s r < f.infRung := by
  by_cases hp : 0 ≤ placeOf f r
  · unfold wholeR; rw [if_pos hp]; exact h
  · exact (whole_val hf hp).2
/-- once whole, always -/
theorem whole_again (way' : Toward) (s' : Bool) : wholeR f way' s' (wholeR f way s r) = wholeR f way s r := by
  by_cases hp : 0 ≤ placeOf f r
  · have : wholeR f way s r = r := by unfold wholeR; rw [if_pos hp]
    rw [this]; unfold wholeR; rw [if_pos hp]
  · obtain ⟨v1, v2⟩ := whole_val hf (way := way) (s := s) hp
    generalize hq : magOf f r / 2 ^ (-placeOf f r).toNat + (upBit way s (magOf f r) (-placeOf f r).toNat).toNat = q at v1
    have hw : wholeR f way s r = rungOf f q 0 := by unfold wholeR; rw [if_neg hp, hq]
    generalize hr : wholeR f way s r = y at *
    by_cases hy : 0 ≤ placeOf f y
    · unfold wholeR; rw [if_pos hy]
    · have hg := place_ge f y
      have hm : magOf f y = q * 2 ^ (-placeOf f y).toNat := by
        unfold val at v1
        have e : 2 ^ (0 - f.leastPlace).toNat = 2 ^ (-placeOf f y).toNat * 2 ^ (placeOf f y - f.leastPlace).toNat := by rw [← Nat.pow_add]; congr 1; omega
        rw [e, ← Nat.mul_assoc] at v1
        exact Nat.mul_right_cancel (Nat.two_pow_pos _) v1
      unfold wholeR
      rw [if_neg hy]
      have hu : upBit way' s' (magOf f y) (-placeOf f y).toNat = false := by
        cases hh : upBit way' s' (magOf f y) (-placeOf f y).toNat with
        | false => rfl
        | true => have := upBit_rem hh; rw [hm, Nat.mul_mod_left] at this; exact absurd rfl this
      rw [hu, hm, Nat.mul_div_cancel _ (Nat.two_pow_pos _)]
      simp only [Bool.toNat_false, Nat.add_zero]
      exact hw.symm
omit hf in
/-- below and above -/
theorem whole_le (h : r < f.infRung) (hu : upBit way s (magOf f r) (-placeOf f r).toNat = false) : wholeR f way s r ≤ r := by
  by_cases hp : 0 ≤ placeOf f r
  · unfold wholeR; rw [if_pos hp]; exact Nat.le_refl _
  · unfold wholeR
    rw [if_neg hp, hu]
    simp only [Bool.toNat_false, Nat.add_zero]
    have h1 := rung_scale f (magOf f r / 2 ^ (-placeOf f r).toNat) (-placeOf f r).toNat 0
    rw [← h1, show (0 : Int) - ((-placeOf f r).toNat : Nat) = placeOf f r by omega]
    have h2 := rung_mono f (placeOf f r) (Nat.div_mul_le_self (magOf f r) (2 ^ (-placeOf f r).toNat))
    rwa [rung_back f (Nat.le_of_lt h)] at h2
omit hf in
theorem whole_ge (h : r < f.infRung) (hu : upBit way s (magOf f r) (-placeOf f r).toNat = true ∨ magOf f r % 2 ^ (-placeOf f r).toNat = 0) : r ≤ wholeR f way s r := by
  by_cases hp : 0 ≤ placeOf f r
  · unfold wholeR; rw [if_pos hp]; exact Nat.le_refl _
  · unfold wholeR
    rw [if_neg hp]
    have hpos := Nat.two_pow_pos (-placeOf f r).toNat
    have hle : magOf f r ≤ (magOf f r / 2 ^ (-placeOf f r).toNat + (upBit way s (magOf f r) (-placeOf f r).toNat).toNat) * 2 ^ (-placeOf f r).toNat := by
      have e := Nat.div_add_mod (magOf f r) (2 ^ (-placeOf f r).toNat)
      have hm := Nat.mod_lt (magOf f r) hpos
      rw [Nat.add_mul, Nat.mul_comm]
      rcases hu with hu | hu
      · rw [hu]; simp only [Bool.toNat_true, Nat.one_mul]; omega
      · omega
    have h1 := rung_scale f (magOf f r / 2 ^ (-placeOf f r).toNat + (upBit way s (magOf f r) (-placeOf f r).toNat).toNat) (-placeOf f r).toNat 0
    rw [← h1, show (0 : Int) - ((-placeOf f r).toNat : Nat) = placeOf f r by omega]
    have h2 := rung_mono f (placeOf f r) hle
    rwa [rung_back f (Nat.le_of_lt h)] at h2
omit hf in
/-- one of two ways is taken -/
theorem whole_same {way' : Toward} {s' : Bool} (h : upBit way s (magOf f r) (-placeOf f r).toNat = upBit way' s' (magOf f r) (-placeOf f r).toNat) : wholeR f way s r = wholeR f way' s' r := by
  unfold wholeR; rw [h]
end
end Go.Sx

/- Whole numbers as floats, and whole parts, as whole numbers that are the words. No condition. -/
namespace Go.Sx
open Go Ieee

theorem i2f_nat (k : FloatKind) (n : Nat) : k.nearest (n : Int) = rungOf k.format n 0 := by
  have e : k.nearest (n : Int) = k.format.nearest (decide ((n : Int) < 0)) (n : Int).natAbs 0 := rfl
  rw [e, nearest_rung, decide_eq_false (by omega)]
  show rungOf k.format (n : Int).natAbs 0 = _
  rw [Int.natAbs_natCast]
theorem i2f_le (k : FloatKind) {a b : Int} (ha : 0 ≤ a) (hab : a ≤ b) : ((k.nearest a : Nat) : Int) ≤ ((k.nearest b : Nat) : Int) ∧ ((k.nearest b : Nat) : Int) ≤ kI k := by
  obtain ⟨m, rfl⟩ := Int.eq_ofNat_of_zero_le ha
  obtain ⟨n, rfl⟩ := Int.eq_ofNat_of_zero_le (show 0 ≤ b by omega)
  rw [i2f_nat, i2f_nat]
  have h1 := rung_mono k.format 0 (show m ≤ n by omega)
  have h2 := rung_le k.format n 0
  have h3 := fmt_I k
  omega

/-! ### whole parts -/
theorem fwhole_nan {way : Toward} {x : Int} (hx : 0 ≤ x ∧ x ≤ topF .f64) (h : kI .f64 < mg .f64 x) : fwholeI way x = -1 := by
  have hd : FloatKind.f64.decode x.toNat = .nan _ _ := read_nan Ieee.double (by decide) ((nan_nat (k := .f64) hx).2 h)
  unfold fwholeI; rw [hd]
/-- the sign's part of a word -/
def sg (x : Int) : Int := if 9223372036854775808 ≤ x then 9223372036854775808 else 0
def rgW (way : Toward) (x : Int) : Nat := if mg .f64 x = kI .f64 then (mg .f64 x).toNat else wholeR Ieee.double way (decide (kM .f64 ≤ x)) (mg .f64 x).toNat
theorem word_int (s : Bool) (r : Nat) : ((Ieee.double.word s r : Nat) : Int) = (if s then 9223372036854775808 else 0) + (r : Int) := by
  unfold Format.word
  rw [dSW]
  cases s
  · show (r : Int) = 0 + (r : Int); omega
  · show ((9223372036854775808 + r : Nat) : Int) = 9223372036854775808 + (r : Int); omega
theorem fwhole_word {way : Toward} {x : Int} (hx : 0 ≤ x ∧ x ≤ topF .f64) (h : mg .f64 x ≤ kI .f64) : fwholeI way x = sg x + (rgW way x : Int) ∧ rgW way x ≤ 9218868437227405312 ∧ (mg .f64 x < kI .f64 → rgW way x < 9218868437227405312) := by
  have hs := (nat_mod hx).2
  have hm := (nat_mod hx).1
  have hb : decide (kM .f64 ≤ x) = decide (9223372036854775808 ≤ x) := rfl
  have hk : kI .f64 = 9218868437227405312 := rfl
  have hsg : (if decide (kM .f64 ≤ x) = true then 9223372036854775808 else 0 : Int) = sg x := by
    unfold sg; rw [hb]; by_cases hh : 9223372036854775808 ≤ x <;> simp [hh]
  rcases Int.lt_or_eq_of_le h with h1 | h1
  · have hl : x.toNat % Ieee.double.signWeight < Ieee.double.infRung := (fin_nat (k := .f64) hx).2 h1
    have hd : FloatKind.f64.decode x.toNat = .number (x.toNat / Ieee.double.signWeight % 2 == 1) (magOf Ieee.double (x.toNat % Ieee.double.signWeight)) (placeOf Ieee.double (x.toNat % Ieee.double.signWeight)) := read_fin Ieee.double hl
    have hmn : x.toNat % Ieee.double.signWeight = (mg .f64 x).toNat := by
      have hm' : ((x.toNat % Ieee.double.signWeight : Nat) : Int) = mg .f64 x := hm
      omega
    have hss : (x.toNat / Ieee.double.signWeight % 2 == 1) = decide (kM .f64 ≤ x) := hs
    have e : fwholeI way x = ((Ieee.double.write ((Datum.number (decide (kM .f64 ≤ x)) (magOf Ieee.double (mg .f64 x).toNat) (placeOf Ieee.double (mg .f64 x).toNat)).integral way) : Nat) : Int) := by
      unfold fwholeI; rw [hd, hmn, hss]; rfl
    rw [hmn] at hl
    have hw := whole_lt fits_double (way := way) (s := decide (kM .f64 ≤ x)) hl
    rw [dIR] at hw
    rw [e, write_whole Ieee.double way _ (Nat.le_of_lt hl), word_int, hsg]
    unfold rgW
    rw [if_neg (by omega)]
    exact ⟨rfl, Nat.le_of_lt hw, fun _ => hw⟩
  · have hl : x.toNat % Ieee.double.signWeight = Ieee.double.infRung := by
      have hm' : ((x.toNat % Ieee.double.signWeight : Nat) : Int) = mg .f64 x := hm
      rw [dIR]; omega
    have hd : FloatKind.f64.decode x.toNat = .infinity (x.toNat / Ieee.double.signWeight % 2 == 1) := read_inf Ieee.double (by decide) hl
    have hss : (x.toNat / Ieee.double.signWeight % 2 == 1) = decide (kM .f64 ≤ x) := hs
    have e : fwholeI way x = ((Ieee.double.word (decide (kM .f64 ≤ x)) Ieee.double.infRung : Nat) : Int) := by
      unfold fwholeI; rw [hd, hss]; rfl
    rw [e, word_int, hsg, dIR]
    unfold rgW
    rw [if_pos h1]
    exact ⟨by omega, by omega, fun hh => by omega⟩
theorem sg_add {x : Int} {r : Nat} (hr : r ≤ 9218868437227405312) : (0 ≤ sg x + (r : Int) ∧ sg x + (r : Int) ≤ topF .f64) ∧ mg .f64 (sg x + (r : Int)) = r ∧ (kM .f64 ≤ sg x + (r : Int) ↔ kM .f64 ≤ x) ∧ ky .f64 (sg x + (r : Int)) = if 9223372036854775808 ≤ x then -(r : Int) else r := by
  have e : sg x = if 9223372036854775808 ≤ x then 9223372036854775808 else 0 := rfl
  have t : topF .f64 = 18446744073709551615 := rfl
  unfold mg ky
  rw [kM64, t]
  by_cases h : 9223372036854775808 ≤ x
  · rw [if_pos h] at e
    rw [e, if_pos (by omega), if_pos (by omega), if_pos h]
    omega
  · rw [if_neg h] at e
    rw [e, if_neg (by omega), if_neg (by omega), if_neg h]
    omega
theorem ky_x {x : Int} (_hx : 0 ≤ x ∧ x ≤ topF .f64) : ky .f64 x = if 9223372036854775808 ≤ x then -(mg .f64 x) else mg .f64 x := by
  unfold ky mg; rw [kM64]; split <;> omega
section
variable {x : Int} (hx : 0 ≤ x ∧ x ≤ topF .f64) (h : mg .f64 x ≤ kI .f64)
include hx h
theorem rg_again (w1 w2 : Toward) : fwholeI w2 (sg x + (rgW w1 x : Int)) = sg x + (rgW w1 x : Int) := by
  obtain ⟨_, r1, r2⟩ := fwhole_word (way := w1) hx h
  obtain ⟨g1, g2, g3, _⟩ := sg_add (x := x) r1
  have hk : kI .f64 = 9218868437227405312 := rfl
  obtain ⟨e, _, _⟩ := fwhole_word (way := w2) g1 (by rw [g2, hk]; omega)
  rw [e]
  have hs : sg (sg x + (rgW w1 x : Int)) = sg x := by
    have g3' : (9223372036854775808 : Int) ≤ sg x + (rgW w1 x : Int) ↔ 9223372036854775808 ≤ x := g3
    show (if (9223372036854775808 : Int) ≤ sg x + (rgW w1 x : Int) then 9223372036854775808 else 0) = _
    unfold sg at g3' ⊢
    by_cases hh : 9223372036854775808 ≤ x
    · rw [if_pos (g3'.2 hh), if_pos hh]
    · rw [if_neg (fun c => hh (g3'.1 c)), if_neg hh]
  rw [hs]
  have hr : rgW w2 (sg x + (rgW w1 x : Int)) = rgW w1 x := by
    have hq : rgW w2 (sg x + (rgW w1 x : Int)) = if mg .f64 (sg x + (rgW w1 x : Int)) = kI .f64 then (mg .f64 (sg x + (rgW w1 x : Int))).toNat else wholeR Ieee.double w2 (decide (kM .f64 ≤ sg x + (rgW w1 x : Int))) (mg .f64 (sg x + (rgW w1 x : Int))).toNat := rfl
    rw [hq, g2, Int.toNat_natCast]
    by_cases hi : ((rgW w1 x : Nat) : Int) = kI .f64
    · rw [if_pos hi]
    · rw [if_neg hi]
      by_cases hm : mg .f64 x = kI .f64
      · exfalso; apply hi
        have : rgW w1 x = (mg .f64 x).toNat := by unfold rgW; rw [if_pos hm]
        rw [this, hm]; decide
      · have : rgW w1 x = wholeR Ieee.double w1 (decide (kM .f64 ≤ x)) (mg .f64 x).toNat := by unfold rgW; rw [if_neg hm]
        rw [this]; exact whole_again fits_double w2 _
  rw [hr]
theorem rg_le (way : Toward) (hu : ∀ r d, upBit way (decide (kM .f64 ≤ x)) r d = false) : (rgW way x : Int) ≤ mg .f64 x := by
  have hp := (mg_pos hx).1
  unfold rgW
  by_cases hm : mg .f64 x = kI .f64
  · rw [if_pos hm]; omega
  · rw [if_neg hm]
    have := whole_le (f := Ieee.double) (way := way) (s := decide (kM .f64 ≤ x)) (r := (mg .f64 x).toNat) (by rw [dIR]; have : kI .f64 = 9218868437227405312 := rfl; omega) (hu _ _)
    omega
theorem rg_ge (way : Toward) (hu : ∀ r d, upBit way (decide (kM .f64 ≤ x)) r d = true ∨ r % 2 ^ d = 0) : mg .f64 x ≤ (rgW way x : Int) := by
  have hp := (mg_pos hx).1
  unfold rgW
  by_cases hm : mg .f64 x = kI .f64
  · rw [if_pos hm]; omega
  · rw [if_neg hm]
    have := whole_ge (f := Ieee.double) (way := way) (s := decide (kM .f64 ≤ x)) (r := (mg .f64 x).toNat) (by rw [dIR]; have : kI .f64 = 9218868437227405312 := rfl; omega) (hu _ _)
    omega
theorem rg_down : ky .f64 (sg x + (rgW .down x : Int)) ≤ ky .f64 x := by
  obtain ⟨_, r1, _⟩ := fwhole_word (way := .down) hx h
  rw [(sg_add (x := x) r1).2.2.2, ky_x hx]
  by_cases hs : 9223372036854775808 ≤ x
  · rw [if_pos hs, if_pos hs]
    have := rg_ge hx h .down (fun r d => by
      have : decide (kM .f64 ≤ x) = true := decide_eq_true hs
      rw [this]; unfold upBit
      by_cases hz : r % 2 ^ d = 0
      · exact .inr hz
      · exact .inl (by simp [hz]))
    omega
  · rw [if_neg hs, if_neg hs]
    exact rg_le hx h .down fun r d => by
      have : decide (kM .f64 ≤ x) = false := decide_eq_false hs
      rw [this]; unfold upBit; simp
theorem rg_up : ky .f64 x ≤ ky .f64 (sg x + (rgW .up x : Int)) := by
  obtain ⟨_, r1, _⟩ := fwhole_word (way := .up) hx h
  rw [(sg_add (x := x) r1).2.2.2, ky_x hx]
  by_cases hs : 9223372036854775808 ≤ x
  · rw [if_pos hs, if_pos hs]
    have := rg_le hx h .up (fun r d => by
      have : decide (kM .f64 ≤ x) = true := decide_eq_true hs
      rw [this]; unfold upBit; simp)
    omega
  · rw [if_neg hs, if_neg hs]
    exact rg_ge hx h .up fun r d => by
      have : decide (kM .f64 ≤ x) = false := decide_eq_false hs
      rw [this]; unfold upBit
      by_cases hz : r % 2 ^ d = 0
      · exact .inr hz
      · exact .inl (by simp [hz])
omit hx h in
theorem rg_one (way : Toward) : rgW way x = rgW .up x ∨ rgW way x = rgW .down x := by
  unfold rgW
  by_cases hm : mg .f64 x = kI .f64
  · rw [if_pos hm, if_pos hm]; exact .inl rfl
  · rw [if_neg hm, if_neg hm, if_neg hm]
    generalize decide (kM .f64 ≤ x) = s
    generalize (mg .f64 x).toNat = r
    have key : ∀ w : Toward, upBit way s (magOf Ieee.double r) (-placeOf Ieee.double r).toNat = upBit w s (magOf Ieee.double r) (-placeOf Ieee.double r).toNat → wholeR Ieee.double way s r = wholeR Ieee.double w s r := fun w hh => whole_same hh
    generalize magOf Ieee.double r = m at key
    generalize (-placeOf Ieee.double r).toNat = d at key
    by_cases hz : m % 2 ^ d = 0
    · left
      apply key
      have h1 : ∀ w, upBit w s m d = false := fun w => by
        cases hu : upBit w s m d with
        | false => rfl
        | true => exact absurd hz (upBit_rem hu)
      rw [h1, h1]
    · have hu : upBit .up s m d = !s := by unfold upBit; simp [hz]
      have hd : upBit .down s m d = s := by unfold upBit; simp [hz]
      cases hq : upBit way s m d with
      | true => cases s with
        | false => exact .inl (key _ (by rw [hq, hu]; rfl))
        | true => exact .inr (key _ (by rw [hq, hd]))
      | false => cases s with
        | false => exact .inr (key _ (by rw [hq, hd]))
        | true => exact .inl (key _ (by rw [hq, hu]; rfl))
end
end Go.Sx

/- Roots: the square of the next lower float is not above, that of the next greater not below. No condition. -/
namespace Go.Sx
open Go Ieee

theorem rootFrom_ok (n : Nat) : ∀ (t r : Nat), 2 ^ t ∣ r → r * r ≤ n → n < (r + 2 ^ t) * (r + 2 ^ t) → Datum.rootFrom n t r * Datum.rootFrom n t r ≤ n ∧ n < (Datum.rootFrom n t r + 1) * (Datum.rootFrom n t r + 1)
  | 0, r, _, h1, h2 => ⟨h1, by simpa [Datum.rootFrom] using h2⟩
  | t + 1, r, hd, h1, h2 => by
    unfold Datum.rootFrom
    simp only [Nat.one_shiftLeft]
    have hd' : 2 ^ t ∣ r := Nat.dvd_trans (Nat.pow_dvd_pow 2 (Nat.le_succ t)) hd
    have e : 2 ^ (t + 1) = 2 ^ t + 2 ^ t := by rw [Nat.pow_succ]; omega
    by_cases h : (r + 2 ^ t) * (r + 2 ^ t) ≤ n
    · rw [if_pos h]
      exact rootFrom_ok n t (r + 2 ^ t) (Nat.dvd_add hd' (Nat.dvd_refl _)) h (by rw [Nat.add_assoc, ← e]; exact h2)
    · rw [if_neg h]
      exact rootFrom_ok n t r hd' h1 (by omega)
theorem root_ok (n : Nat) : Datum.rootFrom n (n.log2 / 2 + 1) 0 * Datum.rootFrom n (n.log2 / 2 + 1) 0 ≤ n ∧ n < (Datum.rootFrom n (n.log2 / 2 + 1) 0 + 1) * (Datum.rootFrom n (n.log2 / 2 + 1) 0 + 1) := by
  refine rootFrom_ok n _ 0 ⟨0, by simp⟩ (by omega) ?_
  rw [Nat.zero_add, ← Nat.pow_add]
  have h : n < 2 ^ (n.log2 + 1) := Nat.lt_log2_self
  exact Nat.lt_of_lt_of_le h (Nat.pow_le_pow_right (by decide) (by omega))
/-- what a number's root is: the rung of twice the whole root, with a digit that tells of a rest -/
theorem root_rung (f : Format) {m : Nat} (hm : 0 < m) (hb : m < 2 ^ (f.fractionBits + 1)) (i : Int) : ∃ (n w : Nat) (e : Int), (Datum.number false m i).root (f.fractionBits + 2) = some (.number false (2 * w + (w * w != n).toNat) (e - 1)) ∧
    w * w ≤ n ∧ n < (w + 1) * (w + 1) ∧ (∃ k : Nat, n = m * 2 ^ k ∧ (k : Int) = i - 2 * e ∧ f.fractionBits + 2 ≤ k + 0 ∧ k ≤ 2 * f.fractionBits + 5) ∧ 2 ^ (f.fractionBits + 2) ≤ w := by
  have h0 : m ≠ 0 := by omega
  have hl : m.log2 ≤ f.fractionBits := by
    have := (Nat.log2_lt h0).2 hb; omega
  generalize hmo : 2 * (f.fractionBits + 2) - m.log2 + ((i - (2 * (f.fractionBits + 2) - m.log2 : Nat)) % 2).toNat = more
  have hmore : 2 * (f.fractionBits + 2) - m.log2 ≤ more ∧ more ≤ 2 * (f.fractionBits + 2) - m.log2 + 1 := by omega
  have heven : (i - (more : Int)) % 2 = 0 := by omega
  refine ⟨m * 2 ^ more, Datum.rootFrom (m * 2 ^ more) ((m * 2 ^ more).log2 / 2 + 1) 0, (i - more) / 2, ?_, (root_ok _).1, (root_ok _).2, ⟨more, rfl, by omega, by omega, by omega⟩, ?_⟩
  · unfold Datum.root
    simp only [h0, if_false, Bool.false_eq_true]
    rw [hmo, Nat.shiftLeft_eq]
  · obtain ⟨_, h2⟩ := root_ok (m * 2 ^ more)
    generalize Datum.rootFrom (m * 2 ^ more) ((m * 2 ^ more).log2 / 2 + 1) 0 = w at *
    rcases Nat.lt_or_ge w (2 ^ (f.fractionBits + 2)) with hlt | hge
    · exfalso
      have h3 : (w + 1) * (w + 1) ≤ 2 ^ (f.fractionBits + 2) * 2 ^ (f.fractionBits + 2) := Nat.mul_le_mul hlt hlt
      have h4 : 2 ^ m.log2 * 2 ^ (2 * (f.fractionBits + 2) - m.log2) ≤ m * 2 ^ more := Nat.mul_le_mul (Nat.log2_self_le h0) (Nat.pow_le_pow_right (by decide) hmore.1)
      rw [← Nat.pow_add] at h3 h4
      rw [show m.log2 + (2 * (f.fractionBits + 2) - m.log2) = f.fractionBits + 2 + (f.fractionBits + 2) by omega] at h4
      omega
    · exact hge
/-- a great value is a multiple of its last digit's -/
theorem val_mult (f : Format) {r k : Nat} (h : 2 ^ (f.fractionBits + 1) * 2 ^ k ≤ val f r) : 2 ^ (k + 1) ∣ val f r ∨ 2 ^ k * 2 ^ (f.fractionBits + 1) = val f r ∨ 2 ^ k ∣ val f r := by
  right; right
  have hm := mag_lt f r
  have eb : 2 * f.binade = 2 ^ (f.fractionBits + 1) := by rw [Nat.pow_succ]; show 2 * 2 ^ f.fractionBits = _; omega
  unfold val at h ⊢
  generalize (placeOf f r - f.leastPlace).toNat = p at *
  rcases Nat.lt_or_ge p k with hp | hp
  · exfalso
    have h1 : magOf f r * 2 ^ p < 2 ^ (f.fractionBits + 1) * 2 ^ p := Nat.mul_lt_mul_of_pos_right (by omega) (Nat.two_pow_pos _)
    have h2 : 2 ^ (f.fractionBits + 1) * 2 ^ p ≤ 2 ^ (f.fractionBits + 1) * 2 ^ k := Nat.mul_le_mul_left _ (Nat.pow_le_pow_right (by decide) (Nat.le_of_lt hp))
    omega
  · exact Nat.dvd_trans (Nat.pow_dvd_pow 2 hp) ⟨magOf f r, Nat.mul_comm _ _⟩
/-- the neighbours of the root's rung, in units of the least place: V is the lower one's value, U the greater one's -/
theorem near_root (f : Format) {w st k R : Nat} (hst : st ≤ 1) (hw : 2 ^ (f.fractionBits + 2) ≤ w) (hR : rungOf f ((2 * w + st) * 2 ^ k) f.leastPlace = R) (hi : R < f.infRung) :
    (∀ q, q < R → val f q ≤ (2 * w) * 2 ^ k) ∧ (∀ q, R < q → q ≤ f.infRung → (2 * w + 2 * st) * 2 ^ k ≤ val f q) := by
  have hk : 0 < 2 ^ k := Nat.two_pow_pos k
  have big : ∀ q, (2 * w) * 2 ^ k ≤ val f q → 2 ^ (k + 1) ∣ val f q := fun q hq => by
    have h1 : 2 ^ (f.fractionBits + 1) * 2 ^ (k + 1) ≤ val f q := by
      have e : 2 ^ (f.fractionBits + 1) * 2 ^ (k + 1) = 2 ^ (f.fractionBits + 2) * 2 ^ k := by rw [← Nat.pow_add, ← Nat.pow_add]; congr 1; omega
      rw [e]
      exact Nat.le_trans (Nat.mul_le_mul_right _ (by omega)) hq
    rcases val_mult f h1 with h | h | h
    · exact Nat.dvd_trans (Nat.pow_dvd_pow 2 (Nat.le_succ _)) h
    · exact ⟨2 ^ (f.fractionBits + 1), h.symm⟩
    · exact h
  have e2 : 2 ^ (k + 1) = 2 * 2 ^ k := Nat.pow_succ'
  have rv : ∀ q, q ≤ f.infRung → rungOf f (val f q) f.leastPlace = q := fun q hq => by
    have := rung_val f hq 0; simpa using this
  refine ⟨fun q hq => ?_, fun q hq hqi => ?_⟩
  · rcases Nat.lt_or_ge ((2 * w) * 2 ^ k) (val f q) with h | h
    · exfalso
      obtain ⟨c, hc⟩ := big q (Nat.le_of_lt h)
      have h1 : (2 * w + st) * 2 ^ k ≤ val f q := by
        rw [hc, e2] at h ⊢
        have h2 : w < c := by
          rcases Nat.lt_or_ge w c with h3 | h3
          · exact h3
          · have : 2 * 2 ^ k * c ≤ 2 * 2 ^ k * w := Nat.mul_le_mul_left _ h3
            rw [Nat.mul_right_comm] at this
            have e3 : 2 * w * 2 ^ k = 2 * 2 ^ k * w := Nat.mul_right_comm _ _ _
            have e4 : 2 * c * 2 ^ k = 2 * 2 ^ k * c := Nat.mul_right_comm _ _ _
            omega
        have h4 : (2 * w + st) * 2 ^ k ≤ (2 * c) * 2 ^ k := Nat.mul_le_mul_right _ (by omega)
        have e4 : 2 * c * 2 ^ k = 2 * 2 ^ k * c := Nat.mul_right_comm _ _ _
        omega
      have h2 := rung_mono f f.leastPlace h1
      rw [hR, rv q (by omega)] at h2
      omega
    · exact h
  · rcases Nat.lt_or_ge (val f q) ((2 * w + 2 * st) * 2 ^ k) with h | h
    · exfalso
      have h1 : val f q ≤ (2 * w + st) * 2 ^ k := by
        rcases Nat.lt_or_ge (val f q) ((2 * w) * 2 ^ k) with h3 | h3
        · exact Nat.le_trans (Nat.le_of_lt h3) (Nat.mul_le_mul_right _ (by omega))
        · obtain ⟨c, hc⟩ := big q h3
          rw [hc, e2] at h ⊢
          have e4 : 2 * c * 2 ^ k = 2 * 2 ^ k * c := Nat.mul_right_comm _ _ _
          have h2 : 2 * c < 2 * w + 2 * st := by
            rcases Nat.lt_or_ge (2 * c) (2 * w + 2 * st) with h5 | h5
            · exact h5
            · have := Nat.mul_le_mul_right (2 ^ k) h5; omega
          have h4 : (2 * c) * 2 ^ k ≤ (2 * w + st) * 2 ^ k := Nat.mul_le_mul_right _ (by omega)
          omega
      have h2 := rung_mono f f.leastPlace h1
      rw [hR, rv q hqi] at h2
      omega
    · exact h
theorem mul_read {q m : Nat} {p : Int} (hr : Ieee.double.read q = .number false m p) : Ieee.double.mul q q = some (rungOf Ieee.double (m * m) (p + p)) := by
  unfold Format.mul
  rw [hr]
  unfold Datum.product
  simp only [Option.map_some]
  unfold Format.write
  simp only [bne_self_eq_false]
  rw [nearest_rung]
  unfold Format.word
  simp
theorem mul_sq {q : Nat} (hq : q < 9218868437227405312) : farI .mul .f64 (q : Int) (q : Int) = ((rungOf Ieee.double (magOf Ieee.double q * magOf Ieee.double q) (placeOf Ieee.double q + placeOf Ieee.double q) : Nat) : Int) := by
  have hm : q % Ieee.double.signWeight = q := by rw [dSW]; omega
  have hs : (q / Ieee.double.signWeight % 2 == 1) = false := by
    have : q / Ieee.double.signWeight = 0 := by rw [dSW]; omega
    rw [this]; rfl
  have hr : Ieee.double.read q = .number false (magOf Ieee.double q) (placeOf Ieee.double q) := by
    have := read_fin Ieee.double (w := q) (by rw [hm, dIR]; exact hq)
    rw [hm, hs] at this; exact this
  generalize magOf Ieee.double q = m at hr ⊢
  generalize placeOf Ieee.double q = p at hr ⊢
  have e : Ieee.double.mul q q = some (rungOf Ieee.double (m * m) (p + p)) := mul_read hr
  rw [farI_eq, Int.toNat_natCast]
  show (match Ieee.double.mul q q with | some r => (r : Int) | none => -1) = _
  rw [e]
theorem sq_rung {q : Nat} : rungOf Ieee.double (magOf Ieee.double q * magOf Ieee.double q) (placeOf Ieee.double q + placeOf Ieee.double q) = rungOf Ieee.double (val Ieee.double q * val Ieee.double q) (-2148) := by
  have hg := place_ge Ieee.double q
  rw [dLP] at hg
  have h := rung_scale Ieee.double (magOf Ieee.double q * magOf Ieee.double q) ((placeOf Ieee.double q + 1074).toNat + (placeOf Ieee.double q + 1074).toNat) (placeOf Ieee.double q + placeOf Ieee.double q)
  rw [← h]
  unfold val
  rw [dLP, show placeOf Ieee.double q - -1074 = placeOf Ieee.double q + 1074 by omega, Nat.pow_add]
  congr 1
  · generalize 2 ^ (placeOf Ieee.double q + 1074).toNat = c
    rw [Nat.mul_mul_mul_comm]
  · omega
theorem sqrt_read {x m a : Nat} {i b : Int} (hr : Ieee.double.read x = .number false m i) (h : (Datum.number false m i).root (Ieee.double.fractionBits + 2) = some (.number false a b)) : Ieee.double.sqrt x = some (rungOf Ieee.double a b) := by
  unfold Format.sqrt
  rw [hr, h]
  simp only [Option.map_some]
  unfold Format.write
  simp only []
  rw [nearest_rung]
  unfold Format.word
  simp
theorem great_rung (j : Nat) : val Ieee.double ((j + 1) * Ieee.double.binade) = Ieee.double.binade * 2 ^ j := by
  have hb := binade_pos Ieee.double
  have h1 : ¬ (j + 1) * Ieee.double.binade < Ieee.double.binade := by
    have := Nat.le_mul_of_pos_left Ieee.double.binade (show 0 < j + 1 by omega)
    omega
  rw [val_eq, if_neg h1, Nat.mul_mod_left, Nat.mul_div_cancel _ hb, Nat.add_zero]
  rfl
/-- a positive number's root -/
theorem sqrt_word {x : Int} (h0 : 0 < x) (hi : x < 9218868437227405312) : ∃ R : Nat, fsqrtI x = R ∧ 1 ≤ R ∧ R ≤ 9110782046170513408 ∧
    (∀ q, q < R → rungOf Ieee.double (val Ieee.double q * val Ieee.double q) (-2148) ≤ x.toNat) ∧ (∀ q, R < q → q ≤ 9218868437227405312 → x.toNat ≤ rungOf Ieee.double (val Ieee.double q * val Ieee.double q) (-2148)) := by
  obtain ⟨ρ, rfl⟩ := Int.eq_ofNat_of_zero_le (Int.le_of_lt h0)
  have hm : ρ % Ieee.double.signWeight = ρ := by rw [dSW]; omega
  have hs : (ρ / Ieee.double.signWeight % 2 == 1) = false := by
    have : ρ / Ieee.double.signWeight = 0 := by rw [dSW]; omega
    rw [this]; rfl
  have hr : Ieee.double.read ρ = .number false (magOf Ieee.double ρ) (placeOf Ieee.double ρ) := by
    have := read_fin Ieee.double (w := ρ) (by rw [hm, dIR]; omega)
    rw [hm, hs] at this; exact this
  have hmp : 0 < magOf Ieee.double ρ := by
    unfold magOf; rw [dBI]; split <;> omega
  have hml := mag_lt Ieee.double ρ
  have hfb : Ieee.double.fractionBits = 52 := rfl
  have hpl := place_ge Ieee.double ρ
  rw [dLP] at hpl
  have hpu : placeOf Ieee.double ρ ≤ 971 := by unfold placeOf; rw [dLP, dBI]; split <;> omega
  obtain ⟨n, w, e, hroot, r1, r2, ⟨k0, hn, hk0, hk1, hk2⟩, hw⟩ := root_rung Ieee.double hmp (by rw [hfb]; rw [dBI] at hml; omega) (placeOf Ieee.double ρ)
  rw [hfb] at hk1 hk2 hw hroot
  have hback := rung_back Ieee.double (r := ρ) (by rw [dIR]; omega)
  generalize magOf Ieee.double ρ = m at *
  generalize placeOf Ieee.double ρ = i at *
  obtain ⟨st, hst⟩ : ∃ st, (w * w != n).toNat = st := ⟨_, rfl⟩
  have hst1 : st ≤ 1 := by rw [← hst]; exact Bool.toNat_le _
  rw [hst] at hroot
  obtain ⟨k, hk⟩ : ∃ k : Nat, (k : Int) = e - 1 + 1074 := ⟨(e - 1 + 1074).toNat, by omega⟩
  obtain ⟨c1532, hcc⟩ : ∃ c : Nat, c = 1532 := ⟨_, rfl⟩
  obtain ⟨c2022, hc2⟩ : ∃ c : Nat, c = 2022 := ⟨_, rfl⟩
  have hkk : k ≤ c1532 := by omega
  have hR : rungOf Ieee.double ((2 * w + st) * 2 ^ k) Ieee.double.leastPlace = rungOf Ieee.double (2 * w + st) (e - 1) := by
    have := rung_scale Ieee.double (2 * w + st) k (e - 1)
    rw [show e - 1 - (k : Int) = -1074 by omega] at this
    rw [dLP]; exact this
  have hwu : 2 * w + st < 2 ^ 83 := by
    have h1 : n < 2 ^ 162 := by
      rw [hn]
      rw [dBI] at hml
      have h2 : m * 2 ^ k0 ≤ m * 2 ^ 109 := Nat.mul_le_mul_left _ (Nat.pow_le_pow_right (by decide) hk2)
      have h3 : m * 2 ^ 109 < 2 ^ 53 * 2 ^ 109 := Nat.mul_lt_mul_of_pos_right (by omega) (by decide)
      rw [← Nat.pow_add] at h3
      omega
    have h4 : w < 2 ^ 81 := by
      rcases Nat.lt_or_ge w (2 ^ 81) with h5 | h5
      · exact h5
      · have := Nat.mul_le_mul h5 h5
        rw [← Nat.pow_add] at this
        omega
    omega
  have hSu : (2 * w + st) * 2 ^ k ≤ val Ieee.double ((c2022 + 1) * Ieee.double.binade) := by
    rw [great_rung]
    have h1 : (2 * w + st) * 2 ^ k ≤ 2 ^ 83 * 2 ^ c1532 := Nat.mul_le_mul (Nat.le_of_lt hwu) (Nat.pow_le_pow_right (by decide) hkk)
    have h2 : (2 : Nat) ^ 83 * 2 ^ c1532 ≤ 2 ^ 52 * 2 ^ c2022 := by
      rw [← Nat.pow_add, ← Nat.pow_add]; exact Nat.pow_le_pow_right (by decide) (by omega)
    exact Nat.le_trans h1 h2
  have hgr : (c2022 + 1) * Ieee.double.binade = 9110782046170513408 := by rw [hc2, dBI]
  have hRu := rung_mono Ieee.double Ieee.double.leastPlace hSu
  have hq0 := rung_val Ieee.double (r := (c2022 + 1) * Ieee.double.binade) (by rw [hgr, dIR]; decide) 0
  rw [Nat.pow_zero, Nat.mul_one] at hq0
  rw [show Ieee.double.leastPlace - ((0 : Nat) : Int) = Ieee.double.leastPlace by omega] at hq0
  rw [hq0, hR, hgr] at hRu
  have hRl : 1 ≤ rungOf Ieee.double (2 * w + st) (e - 1) := by
    rw [← hR]
    have hv1 : val Ieee.double 1 = 1 := by rw [val_eq, dBI, if_pos (by decide)]
    have h1 : val Ieee.double 1 * 2 ^ 0 ≤ (2 * w + st) * 2 ^ k := by
      rw [hv1]
      have : 0 < 2 ^ k := Nat.two_pow_pos k
      have := Nat.mul_pos (show 0 < 2 * w + st by omega) this
      omega
    have := le_rung Ieee.double (r := 1) (by rw [dIR]; decide) h1
    rwa [show Ieee.double.leastPlace - ((0 : Nat) : Int) = Ieee.double.leastPlace by omega] at this
  obtain ⟨lo, hiR⟩ := near_root Ieee.double hst1 (by rw [hfb]; exact hw) hR (by rw [dIR]; omega)
  have hx : ρ = rungOf Ieee.double (4 * n * (2 ^ k * 2 ^ k)) (-2148) := by
    have h1 := rung_scale Ieee.double m (k0 + 2 + k + k) i
    rw [hback] at h1
    rw [← h1]
    congr 1
    · rw [hn, Nat.pow_add, Nat.pow_add, Nat.pow_add, show (2 : Nat) ^ 2 = 4 by decide]
      generalize 2 ^ k = c
      generalize 2 ^ k0 = d
      rw [Nat.mul_comm 4, Nat.mul_assoc, Nat.mul_assoc, Nat.mul_assoc, Nat.mul_assoc]
    · omega
  refine ⟨rungOf Ieee.double (2 * w + st) (e - 1), ?_, hRl, hRu, fun q hq => ?_, fun q hq hqi => ?_⟩
  · have e1 := sqrt_read hr (by rw [hfb]; exact hroot)
    unfold fsqrtI
    rw [Int.toNat_natCast]
    show (match Ieee.double.sqrt ρ with | some r => (r : Int) | none => -1) = _
    rw [e1]
  · rw [Int.toNat_natCast, hx]
    refine rung_mono _ _ ?_
    have h1 := lo q hq
    have h2 := Nat.mul_le_mul h1 h1
    refine Nat.le_trans h2 ?_
    rw [Nat.mul_mul_mul_comm]
    refine Nat.mul_le_mul_right _ ?_
    rw [Nat.mul_mul_mul_comm]
    exact Nat.mul_le_mul_left _ r1
  · rw [Int.toNat_natCast, hx]
    refine rung_mono _ _ ?_
    have h1 := hiR q hq (by rw [dIR]; exact hqi)
    have h2 := Nat.mul_le_mul h1 h1
    refine Nat.le_trans ?_ h2
    rw [Nat.mul_mul_mul_comm (2 * w + 2 * st)]
    refine Nat.mul_le_mul_right _ ?_
    have h3 : 2 * w + 2 * st = 2 * (w + st) := by omega
    rw [h3, Nat.mul_mul_mul_comm]
    refine Nat.mul_le_mul_left _ ?_
    by_cases hz : w * w = n
    · have : st = 0 := by rw [← hst, hz]; simp
      rw [this, Nat.add_zero]; omega
    · have : st = 1 := by
        rw [← hst]
        have : (w * w != n) = true := by simpa using hz
        rw [this]; rfl
      rw [this]; exact Nat.le_of_lt r2
theorem fsqrt_some {x : Int} {r : Nat} (h : Ieee.double.sqrt x.toNat = some r) : fsqrtI x = r := by
  unfold fsqrtI
  show (match Ieee.double.sqrt x.toNat with | some r => (r : Int) | none => -1) = _
  rw [h]
theorem fsqrt_none {x : Int} (h : Ieee.double.sqrt x.toNat = none) : fsqrtI x = -1 := by
  unfold fsqrtI
  show (match Ieee.double.sqrt x.toNat with | some r => (r : Int) | none => -1) = _
  rw [h]
theorem fsqrt_nan {x : Int} (hx : 0 ≤ x ∧ x ≤ topF .f64) (h : kI .f64 < mg .f64 x) : fsqrtI x = -1 := by
  have hr := read_nan Ieee.double (by decide) ((nan_nat (k := .f64) hx).2 h)
  have : Ieee.double.sqrt x.toNat = none := by unfold Format.sqrt; rw [hr]; rfl
  exact fsqrt_none this
theorem fsqrt_neg {x : Int} (hx : 0 ≤ x ∧ x ≤ topF .f64) (h : mg .f64 x ≤ kI .f64) (hn : kM .f64 ≤ x) (h0 : mg .f64 x ≠ 0) : fsqrtI x = -1 := by
  have hs := (nat_mod (k := .f64) hx).2
  rw [decide_eq_true hn] at hs
  have : Ieee.double.sqrt x.toNat = none := by
    unfold Format.sqrt
    by_cases he : mg .f64 x = kI .f64
    · have hr := read_inf Ieee.double (w := x.toNat) (by decide) (by
        have h1 := (nat_mod (k := .f64) hx).1; have h2 := fmt_I .f64
        show x.toNat % FloatKind.f64.format.signWeight = FloatKind.f64.format.infRung
        omega)
      rw [show (x.toNat / Ieee.double.signWeight % 2 == 1) = true from hs] at hr
      rw [hr]; rfl
    · have hr := read_fin Ieee.double (w := x.toNat) ((fin_nat (k := .f64) hx).2 (by omega))
      rw [show (x.toNat / Ieee.double.signWeight % 2 == 1) = true from hs] at hr
      rw [hr]
      have hz : magOf Ieee.double (x.toNat % Ieee.double.signWeight) ≠ 0 := by
        have h1 : x.toNat % Ieee.double.signWeight ≠ 0 := fun hh => h0 ((zero_nat (k := .f64) hx).1 hh)
        unfold magOf; rw [dBI]; split <;> omega
      generalize magOf Ieee.double (x.toNat % Ieee.double.signWeight) = m at *
      generalize placeOf Ieee.double (x.toNat % Ieee.double.signWeight) = i at *
      unfold Datum.root
      simp only [hz, if_false, if_true]
      rfl
  exact fsqrt_none this
theorem fsqrt_zero {x : Int} (hx : 0 ≤ x ∧ x ≤ topF .f64) (h0 : mg .f64 x = 0) : fsqrtI x = x := by
  have hz := (zero_nat (k := .f64) hx).2 h0
  have hz' : x.toNat % Ieee.double.signWeight = 0 := hz
  have hwr := write_read Ieee.double (by decide) (nat_lt (k := .f64) hx) (by rw [hz']; omega)
  have hr := read_fin Ieee.double (w := x.toNat) (by rw [hz', dIR]; decide)
  have hm0 : magOf Ieee.double (x.toNat % Ieee.double.signWeight) = 0 := by rw [hz']; rfl
  rw [hm0] at hr
  rw [hr] at hwr
  have : Ieee.double.sqrt x.toNat = some x.toNat := by
    unfold Format.sqrt
    rw [hr]
    generalize placeOf Ieee.double (x.toNat % Ieee.double.signWeight) = i at *
    unfold Datum.root
    simp only [if_true, Option.map_some]
    rw [hwr]
  rw [fsqrt_some this]
  omega
theorem fsqrt_inf : fsqrtI 9218868437227405312 = 9218868437227405312 := by decide
end Go.Sx

/- The four operations and the root of two formats, as the reference reckons them. No condition. -/
namespace Go.Sx.Ref
set_option linter.unusedVariables false
set_option linter.unusedSectionVars false
open Go Go.Sx Ieee
/-- a word's magnitude and place -/
def mO (k : FloatKind) (x : Int) : Nat := magOf k.format (mg k x).toNat
def pO (k : FloatKind) (x : Int) : Int := placeOf k.format (mg k x).toNat
def sO (k : FloatKind) (x : Int) : Bool := decide (kM k ≤ x)
theorem frac_le (k : FloatKind) : k.format.fractionBits ≤ 52 := by cases k <;> decide
theorem binade_le52 (k : FloatKind) : 2 * k.format.binade ≤ 9007199254740992 := by cases k <;> decide
theorem mO_lt (k : FloatKind) (x : Int) : mO k x < 9007199254740992 := Nat.lt_of_lt_of_le (mag_lt _ _) (binade_le52 k)
section
variable {k : FloatKind} {x : Int} (hx : 0 ≤ x ∧ x ≤ topF k)
include hx
theorem mod_nat : x.toNat % k.format.signWeight = (mg k x).toNat := by have := (nat_mod hx).1; omega
theorem read_num (h : mg k x < kI k) : k.format.read x.toNat = .number (sO k x) (mO k x) (pO k x) := by
  rw [read_fin k.format ((fin_nat hx).2 h), (nat_mod hx).2, mod_nat hx]; rfl
theorem read_infi (h : mg k x = kI k) : k.format.read x.toNat = .infinity (sO k x) := by
  have h1 := (nat_mod hx).1
  have h2 := fmt_I k
  rw [read_inf k.format (fmt_e k) (by omega), (nat_mod hx).2]; rfl
theorem read_nano (h : kI k < mg k x) : ∃ s t, k.format.read x.toNat = .nan s t := ⟨_, _, read_nan k.format (fmt_e k) ((nan_nat hx).2 h)⟩
theorem mO_zero (h : mg k x < kI k) : mO k x = 0 ↔ mg k x = 0 := by
  have := mg_pos hx
  have hb := binade_pos k.format
  unfold mO magOf
  split <;> omega
theorem far_place (h : mg k x < kI k) (hp : k.format.leastPlace < pO k x) : 2 ^ k.format.fractionBits ≤ mO k x := by
  unfold pO placeOf at hp
  unfold mO magOf
  split at hp
  · omega
  · rename_i hh
    rw [if_neg hh]
    exact Nat.le_add_right _ _
theorem pO_ge : k.format.leastPlace ≤ pO k x := place_ge _ _
end
def wI (k : FloatKind) (s : Bool) (r : Nat) : Int := wordI k.format s r
theorem wI_eq (k : FloatKind) (s : Bool) (r : Nat) : wI k s r = (if s then kM k else 0) + r := by
  unfold wI wordI; rw [fmt_M]
/-- a sum, with the other's sign turned or not -/
theorem far_sum {k : FloatKind} {x y : Int} (b : Bool) (hx : 0 ≤ x ∧ x ≤ topF k) (hy : 0 ≤ y ∧ y ≤ topF k) (nx : mg k x ≤ kI k) (ny : mg k y ≤ kI k) :
    farI (if b then .sub else .add) k x y = if mg k x = kI k then (if mg k y = kI k ∧ sO k x ≠ (sO k y ^^ b) then -1 else wI k (sO k x) k.format.infRung) else if mg k y = kI k then wI k (sO k y ^^ b) k.format.infRung
      else sumC k.format (sO k x) (mO k x) (pO k x) (sO k y ^^ b) (mO k y) (pO k y) := by
  have hop : ∀ d : Datum, (if b then k.format.sub x.toNat y.toNat else k.format.add x.toNat y.toNat) = ((k.format.read x.toNat).sum (if b then (k.format.read y.toNat).opposite else k.format.read y.toNat)).map k.format.write := by
    intro _; cases b <;> rfl
  have hfar : farI (if b then .sub else .add) k x y = match ((k.format.read x.toNat).sum (if b then (k.format.read y.toNat).opposite else k.format.read y.toNat)).map k.format.write with
      | some r => (r : Int) | none => -1 := by
    rw [← hop (.infinity true)]
    cases b <;> rfl
  have hinf : ∀ s : Bool, ((k.format.write (.infinity s) : Nat) : Int) = wI k s k.format.infRung := fun s => word_int' _ _ _
  rw [hfar]
  by_cases ix : mg k x = kI k
  · rw [if_pos ix, read_infi hx ix]
    by_cases iy : mg k y = kI k
    · rw [read_infi hy iy]
      have : (if b then (Datum.infinity (sO k y)).opposite else Datum.infinity (sO k y)) = .infinity (sO k y ^^ b) := by cases b <;> simp [Datum.opposite]
      rw [this]
      by_cases hs : sO k x = (sO k y ^^ b)
      · simp only [Datum.sum, if_pos hs, Option.map]
        rw [if_neg (by simp [hs]), ← hinf]
      · simp only [Datum.sum, if_neg hs, Option.map]
        rw [if_pos ⟨iy, hs⟩]
    · rw [read_num hy (by omega), if_neg (show ¬ (mg k y = kI k ∧ sO k x ≠ (sO k y ^^ b)) from fun h => iy h.1)]
      have : (if b then (Datum.number (sO k y) (mO k y) (pO k y)).opposite else Datum.number (sO k y) (mO k y) (pO k y)) = .number (sO k y ^^ b) (mO k y) (pO k y) := by cases b <;> simp [Datum.opposite]
      rw [this]
      exact hinf _
  · rw [if_neg ix, read_num hx (by omega)]
    by_cases iy : mg k y = kI k
    · rw [if_pos iy, read_infi hy iy]
      have : (if b then (Datum.infinity (sO k y)).opposite else Datum.infinity (sO k y)) = .infinity (sO k y ^^ b) := by cases b <;> simp [Datum.opposite]
      rw [this]
      exact hinf _
    · rw [if_neg iy, read_num hy (by omega)]
      have : (if b then (Datum.number (sO k y) (mO k y) (pO k y)).opposite else Datum.number (sO k y) (mO k y) (pO k y)) = .number (sO k y ^^ b) (mO k y) (pO k y) := by cases b <;> simp [Datum.opposite]
      rw [this]
      obtain ⟨r, h1, h2⟩ := sum_num k.format (sO k x) (sO k y ^^ b) (mO k x) (mO k y) (pO k x) (pO k y) _ rfl
      rw [h1, sumC_eq k.format _ _ _ _ _ _ _ rfl (frac_le k) (mO_lt k x) (mO_lt k y)]
      · exact h2
      · intro h; exact far_place hx (by omega) (by have := pO_ge hy; omega)
      · intro h; exact far_place hy (by omega) (by have := pO_ge hx; omega)
theorem far_mul {k : FloatKind} {x y : Int} (hx : 0 ≤ x ∧ x ≤ topF k) (hy : 0 ≤ y ∧ y ≤ topF k) (nx : mg k x ≤ kI k) (ny : mg k y ≤ kI k) :
    farI .mul k x y = if (mg k x = kI k ∧ mg k y = 0) ∨ (mg k y = kI k ∧ mg k x = 0) then -1 else if mg k x = kI k ∨ mg k y = kI k then wI k (sO k x ^^ sO k y) k.format.infRung
      else wI k (sO k x ^^ sO k y) (rungOf k.format (mO k x * mO k y) (pO k x + pO k y)) := by
  have hI := (M_pos k).2.1
  have hfar : farI .mul k x y = match ((k.format.read x.toNat).product (k.format.read y.toNat)).map k.format.write with | some r => (r : Int) | none => -1 := rfl
  have hinf : ∀ s : Bool, ((k.format.write (.infinity s) : Nat) : Int) = wI k s k.format.infRung := fun s => word_int' _ _ _
  rw [hfar]
  by_cases ix : mg k x = kI k
  · rw [read_infi hx ix]
    by_cases iy : mg k y = kI k
    · rw [read_infi hy iy, if_neg (by omega), if_pos (.inl ix)]
      exact hinf _
    · rw [read_num hy (by omega)]
      by_cases h0 : mg k y = 0
      · rw [if_pos (.inl ⟨ix, h0⟩)]
        simp only [Datum.product, if_pos ((mO_zero hy (by omega)).2 h0), Option.map]
      · rw [if_neg (by omega), if_pos (.inl ix)]
        simp only [Datum.product, if_neg (fun h => h0 ((mO_zero hy (by omega)).1 h)), Option.map]
        exact hinf _
  · rw [read_num hx (by omega)]
    by_cases iy : mg k y = kI k
    · rw [read_infi hy iy]
      by_cases h0 : mg k x = 0
      · rw [if_pos (.inr ⟨iy, h0⟩)]
        simp only [Datum.product, if_pos ((mO_zero hx (by omega)).2 h0), Option.map]
      · rw [if_neg (by omega), if_pos (.inr iy)]
        simp only [Datum.product, if_neg (fun h => h0 ((mO_zero hx (by omega)).1 h)), Option.map]
        rw [Bool.xor_comm]
        exact hinf _
    · rw [read_num hy (by omega), if_neg (by omega), if_neg (by omega)]
      show ((k.format.nearest _ _ _ : Nat) : Int) = _
      rw [nearest_rung]
      exact word_int' _ _ _
theorem quo_big {f : Format} {m n a : Nat} (hm : m ≠ 0) (hn : n ≠ 0) (ha : f.fractionBits + 2 + n.log2 ≤ m.log2 + a) : 2 ^ (f.fractionBits + 1) ≤ m * 2 ^ a / n := by
  rw [Nat.le_div_iff_mul_le (by omega)]
  have h1 : 2 ^ (m.log2 + a) ≤ m * 2 ^ a := by rw [Nat.pow_add]; exact Nat.mul_le_mul_right _ (Nat.log2_self_le hm)
  have h2 : 2 ^ (f.fractionBits + 2 + n.log2) ≤ 2 ^ (m.log2 + a) := Nat.pow_le_pow_right (by decide) ha
  have h3 : 2 ^ (f.fractionBits + 1) * n ≤ 2 ^ (f.fractionBits + 1) * 2 ^ (n.log2 + 1) := Nat.mul_le_mul_left _ (Nat.le_of_lt Nat.lt_log2_self)
  rw [← Nat.pow_add, show f.fractionBits + 1 + (n.log2 + 1) = f.fractionBits + 2 + n.log2 by omega] at h3
  omega
theorem lenN_log {m : Nat} (hm : m ≠ 0) : lenN m = m.log2 + 1 := by unfold lenN; rw [if_neg hm]
theorem lenN53 {m : Nat} (h : m < 9007199254740992) : lenN m ≤ 53 := (lenN_le m 53).2 (by simpa using h)
theorem shl_top {m : Nat} (hm : m ≠ 0) (h : m < 9007199254740992) : 9223372036854775808 ≤ m * 2 ^ (64 - lenN m) ∧ m * 2 ^ (64 - lenN m) < 18446744073709551616 := by
  have h1 := lenN53 h
  have h2 := lenN_log hm
  have e1 : (9223372036854775808 : Nat) = 2 ^ m.log2 * 2 ^ (64 - lenN m) := by rw [← Nat.pow_add, show m.log2 + (64 - lenN m) = 63 by omega]
  have e2 : (18446744073709551616 : Nat) = 2 ^ (m.log2 + 1) * 2 ^ (64 - lenN m) := by rw [← Nat.pow_add, show m.log2 + 1 + (64 - lenN m) = 64 by omega]
  constructor
  · rw [e1]; exact Nat.mul_le_mul_right _ (Nat.log2_self_le hm)
  · rw [e2]; exact Nat.mul_lt_mul_of_pos_right Nat.lt_log2_self (Nat.two_pow_pos _)
theorem quoC_eq {f : Format} {m n : Nat} (hF : f.fractionBits ≤ 52) (hm : m ≠ 0) (hn : n ≠ 0) (hm2 : m < 9007199254740992) (hn2 : n < 9007199254740992) (i j : Int) :
    quoC f m i n j = quoR f m n (f.fractionBits + 2 + n.log2 - m.log2) (i - j) := by
  have h1 := lenN53 hm2
  have h2 := lenN53 hn2
  have g1 := lenN_log hm
  have g2 := lenN_log hn
  obtain ⟨p, hp⟩ : ∃ p, 64 - lenN m = p := ⟨_, rfl⟩
  obtain ⟨q, hq⟩ : ∃ q, 64 - lenN n = q := ⟨_, rfl⟩
  obtain ⟨x1, x2⟩ := shl_top hm hm2
  obtain ⟨y1, y2⟩ := shl_top hn hn2
  rw [hp] at x1 x2
  rw [hq] at y1 y2
  rw [quo_same f (b := p + 63 - q) (i - j) (by omega) (quo_big hm hn (by omega)) (quo_big hm hn (by omega))]
  unfold quoC quoR
  simp only
  rw [hp, hq]
  obtain ⟨X, hX⟩ : ∃ X, m * 2 ^ p = X := ⟨_, rfl⟩
  obtain ⟨Y, hY⟩ : ∃ Y, n * 2 ^ q = Y := ⟨_, rfl⟩
  rw [hX] at x1 x2
  rw [hY] at y1 y2
  rw [hX, hY]
  obtain ⟨s1, s2⟩ := divL_spec 64 (X * 9223372036854775808 % 18446744073709551616) Y 0 (X / 2) (by omega) (by omega)
  have e64 : (2 : Nat) ^ 64 = 18446744073709551616 := by decide
  have eN : X / 2 * 2 ^ 64 + X * 9223372036854775808 % 18446744073709551616 % 2 ^ 64 = X * 2 ^ 63 := by
    rw [e64, show (2 : Nat) ^ 63 = 9223372036854775808 by decide]; omega
  rw [s1, s2, eN, Nat.zero_or]
  have hXY : X * 2 ^ 63 = m * 2 ^ (p + 63 - q) * 2 ^ q := by
    rw [← hX, Nat.mul_assoc, Nat.mul_assoc, ← Nat.pow_add, ← Nat.pow_add]; congr 2; omega
  have hp0 := Nat.two_pow_pos q
  rw [hXY, ← hY, Nat.mul_div_mul_right _ _ hp0, Nat.mul_mod_mul_right]
  have hz : (m * 2 ^ (p + 63 - q) % n * 2 ^ q = 0) ↔ (m * 2 ^ (p + 63 - q) % n = 0) := ⟨fun h => (Nat.mul_eq_zero.1 h).resolve_right (by omega), fun h => by rw [h, Nat.zero_mul]⟩
  simp only [hz]
  congr 1
  omega
theorem far_quo {k : FloatKind} {x y : Int} (hx : 0 ≤ x ∧ x ≤ topF k) (hy : 0 ≤ y ∧ y ≤ topF k) (nx : mg k x ≤ kI k) (ny : mg k y ≤ kI k) :
    farI .quo k x y = if (mg k x = kI k ∧ mg k y = kI k) ∨ (mg k x = 0 ∧ mg k y = 0) then -1 else if mg k x = kI k ∨ mg k y = 0 then wI k (sO k x ^^ sO k y) k.format.infRung
      else if mg k y = kI k ∨ mg k x = 0 then wI k (sO k x ^^ sO k y) 0 else wI k (sO k x ^^ sO k y) (quoC k.format (mO k x) (pO k x) (mO k y) (pO k y)) := by
  have hI := (M_pos k).2.1
  have hfar : farI .quo k x y = match ((k.format.read x.toNat).quotient (k.format.fractionBits + 2) (k.format.read y.toNat)).map k.format.write with | some r => (r : Int) | none => -1 := rfl
  have hinf : ∀ s : Bool, ((k.format.write (.infinity s) : Nat) : Int) = wI k s k.format.infRung := fun s => word_int' _ _ _
  have hnul : ∀ s i, ((k.format.write (.number s 0 i) : Nat) : Int) = wI k s 0 := fun s i => by
    show ((k.format.nearest s 0 i : Nat) : Int) = _
    rw [nearest_rung, word_int']; rfl
  rw [hfar]
  by_cases ix : mg k x = kI k
  · rw [read_infi hx ix]
    by_cases iy : mg k y = kI k
    · rw [read_infi hy iy, if_pos (.inl ⟨ix, iy⟩)]; rfl
    · rw [read_num hy (by omega), if_neg (by omega), if_pos (.inl ix)]
      exact hinf _
  · rw [read_num hx (by omega)]
    by_cases iy : mg k y = kI k
    · rw [read_infi hy iy, if_neg (by omega), if_neg (by omega), if_pos (.inl iy)]
      exact hnul _ _
    · rw [read_num hy (by omega)]
      by_cases h0 : mg k y = 0
      · have z := (mO_zero hy (by omega)).2 h0
        by_cases h1 : mg k x = 0
        · rw [if_pos (.inr ⟨h1, h0⟩)]
          simp only [Datum.quotient, if_pos z, if_pos ((mO_zero hx (by omega)).2 h1), Option.map]
        · rw [if_neg (by omega), if_pos (.inr h0)]
          simp only [Datum.quotient, if_pos z, if_neg (fun h => h1 ((mO_zero hx (by omega)).1 h)), Option.map]
          exact hinf _
      · have z : mO k y ≠ 0 := fun h => h0 ((mO_zero hy (by omega)).1 h)
        rw [if_neg (by omega), if_neg (by omega)]
        simp only [Datum.quotient, if_neg z, Option.map]
        by_cases h1 : mg k x = 0
        · rw [if_pos (.inr h1), (mO_zero hx (by omega)).2 h1, Nat.zero_shiftLeft, Nat.zero_div, Nat.zero_mod]
          exact hnul _ _
        · rw [if_neg (by omega)]
          have z' : mO k x ≠ 0 := fun h => h1 ((mO_zero hx (by omega)).1 h)
          show ((k.format.nearest _ _ _ : Nat) : Int) = _
          rw [nearest_rung, word_int', quoC_eq (frac_le k) z' z (mO_lt k x) (mO_lt k y)]
          unfold wI quoR
          rw [Nat.shiftLeft_eq]
          congr 2
          · congr 1
            by_cases hr : mO k x * 2 ^ (k.format.fractionBits + 2 + (mO k y).log2 - (mO k x).log2) % mO k y = 0
            · rw [if_pos hr, hr]; rfl
            · rw [if_neg hr, (bne_iff_ne).2 hr]; rfl
theorem root_lo {N r : Nat} (h : IsRoot N r) {a : Nat} (hN : 2 ^ (2 * a) ≤ N) : 2 ^ a ≤ r := by
  have : 2 ^ a < r + 1 := sq_lt (Nat.lt_of_le_of_lt (by rw [← Nat.pow_add, show a + a = 2 * a by omega]; exact hN) h.2)
  omega
theorem root_two {f : Format} {N N' r r' a : Nat} {b : Int} (e e' : Int) (h : IsRoot N r) (h' : IsRoot N' r') (hr : 2 ^ (f.fractionBits + 1) ≤ r) (hN : N' = N * 2 ^ (2 * a)) (he : e' = e - a) (_ : b = 0) : rootR f N' r' e' = rootR f N r e := by
  subst hN he
  exact root_more f a e h h' hr
/-- the code's root is the root -/
theorem rootC_eq {m : Nat} (hm : m ≠ 0) (hm2 : m < 9007199254740992) (i : Int) : ∃ a w : Nat, (i - a) % 2 = 0 ∧ IsRoot (m * 2 ^ a) w ∧ (Datum.number false m i).root (Ieee.double.fractionBits + 2) = some (.number false (2 * w + (w * w != m * 2 ^ a).toNat) ((i - a) / 2 - 1)) ∧ rungOf Ieee.double (2 * w + (w * w != m * 2 ^ a).toNat) ((i - a) / 2 - 1) = rootC Ieee.double m i := by
  have h1 := lenN53 hm2
  have g1 := lenN_log hm
  have hF : Ieee.double.fractionBits = 52 := rfl
  obtain ⟨L, hL⟩ : ∃ L, m.log2 = L := ⟨_, rfl⟩
  obtain ⟨a, ha⟩ : ∃ a, 2 * (Ieee.double.fractionBits + 2) - m.log2 + ((i - ((2 * (Ieee.double.fractionBits + 2) - m.log2 : Nat) : Int)) % 2).toNat = a := ⟨_, rfl⟩
  have ha1 : (i - a) % 2 = 0 := by rw [← ha, hF]; omega
  have ha2 : 108 ≤ L + a := by rw [← ha, hF, hL]; omega
  have ha3 : a ≤ 109 := by rw [← ha, hF]; omega
  have hroot := root_ok (m * 2 ^ a)
  obtain ⟨w, hw⟩ : ∃ w, Datum.rootFrom (m * 2 ^ a) ((m * 2 ^ a).log2 / 2 + 1) 0 = w := ⟨_, rfl⟩
  rw [hw] at hroot
  refine ⟨a, w, ha1, hroot, ?_, ?_⟩
  · simp only [Datum.root, if_neg hm, Bool.false_eq_true, if_false]
    rw [ha, Nat.shiftLeft_eq, hw]
  · have hge : ∀ {b v : Nat}, 108 ≤ L + b → IsRoot (m * 2 ^ b) v → 2 ^ (Ieee.double.fractionBits + 1) ≤ v := fun {b v} hb hv => by
      have h3 : 2 ^ (2 * 54) ≤ m * 2 ^ b := Nat.le_trans (Nat.pow_le_pow_right (by decide) (show 2 * 54 ≤ L + b by omega)) (by rw [Nat.pow_add, ← hL]; exact Nat.mul_le_mul_right _ (Nat.log2_self_le hm))
      have := root_lo hv h3
      have h53 : (2 : Nat) ^ (Ieee.double.fractionBits + 1) ≤ 2 ^ 54 := by decide
      omega
    obtain ⟨c, hc⟩ : ∃ c, (if (i - ((126 - lenN m : Nat) : Int)) % 2 = 1 then 126 - lenN m - 1 else 126 - lenN m) = c := ⟨_, rfl⟩
    have hc1 : (i - c) % 2 = 0 := by rw [← hc]; split <;> omega
    have hc2 : 124 ≤ L + c := by rw [← hc, g1, hL]; split <;> omega
    have hc3 : L + c ≤ 125 := by rw [← hc, g1, hL]; split <;> omega
    have hlt : m * 2 ^ c < 2 ^ 126 := by
      have h4 : m * 2 ^ c < 2 ^ (L + 1) * 2 ^ c := Nat.mul_lt_mul_of_pos_right (by rw [← hL]; exact Nat.lt_log2_self) (Nat.two_pow_pos _)
      rw [← Nat.pow_add] at h4
      exact Nat.lt_of_lt_of_le h4 (Nat.pow_le_pow_right (by decide) (by omega))
    have hv := rootL_spec (m * 2 ^ c) 64 0 (Nat.dvd_zero _) (by omega) (Nat.lt_trans hlt (by decide))
    unfold rootC
    simp only
    rw [hc]
    obtain ⟨v, hv'⟩ : ∃ v, rootL 64 (m * 2 ^ c) 0 = v := ⟨_, rfl⟩
    rw [hv'] at hv ⊢
    have hb : (w * w != m * 2 ^ a).toNat = if w * w = m * 2 ^ a then 0 else 1 := by
      by_cases h : w * w = m * 2 ^ a
      · rw [if_pos h, h]; simp
      · rw [if_neg h, (bne_iff_ne).2 h]; rfl
    rw [hb]
    show rootR Ieee.double (m * 2 ^ a) w ((i - a) / 2) = rootR Ieee.double (m * 2 ^ c) v ((i - c) / 2)
    rcases Nat.le_total a c with h | h
    · obtain ⟨d, hd⟩ : ∃ d, c = a + 2 * d := ⟨(c - a) / 2, by omega⟩
      refine (root_two (b := 0) ((i - a) / 2) ((i - c) / 2) hroot hv (hge ha2 hroot) (a := d) ?_ (by omega) rfl).symm
      rw [hd, Nat.pow_add, Nat.mul_assoc]
    · obtain ⟨d, hd⟩ : ∃ d, a = c + 2 * d := ⟨(a - c) / 2, by omega⟩
      refine root_two (b := 0) ((i - c) / 2) ((i - a) / 2) hv hroot (hge (by omega) hv) (a := d) ?_ (by omega) rfl
      rw [hd, Nat.pow_add, Nat.mul_assoc]
theorem far_root {x : Int} (hx : 0 ≤ x ∧ x ≤ topF .f64) (nx : mg .f64 x ≤ kI .f64) :
    fsqrtI x = if kM .f64 ≤ x ∧ mg .f64 x ≠ 0 then -1 else if mg .f64 x = kI .f64 then kI .f64 else if mg .f64 x = 0 then wI .f64 (sO .f64 x) 0 else (rootC Ieee.double (mO .f64 x) (pO .f64 x) : Nat) := by
  have hpos := mg_pos hx
  have hI := (M_pos .f64).2.1
  by_cases hz : mg .f64 x = 0
  · rw [if_neg (by omega), if_neg (by omega), if_pos hz, fsqrt_zero hx hz, wI_eq]
    unfold mg at hz
    unfold sO
    by_cases h : kM .f64 ≤ x
    · rw [if_pos h] at hz; simp [h]; omega
    · rw [if_neg h] at hz; simp [h]; omega
  · by_cases hs : kM .f64 ≤ x
    · rw [if_pos ⟨hs, hz⟩, fsqrt_neg hx nx hs hz]
    · rw [if_neg (by omega)]
      have hmx : mg .f64 x = x := by unfold mg; rw [if_neg hs]
      by_cases hi : mg .f64 x = kI .f64
      · rw [if_pos hi, hmx.symm.trans hi]; exact fsqrt_inf
      · rw [if_neg hi, if_neg hz]
        have hsO : sO .f64 x = false := decide_eq_false hs
        have hr := read_num hx (show mg .f64 x < kI .f64 by omega)
        rw [hsO] at hr
        have hm : mO .f64 x ≠ 0 := fun h => hz ((mO_zero hx (by omega)).1 h)
        obtain ⟨a, w, _, _, h3, h4⟩ := rootC_eq hm (mO_lt .f64 x) (pO .f64 x)
        have := sqrt_read (x := x.toNat) hr h3
        rw [h4] at this
        exact fsqrt_some this
end Go.Sx.Ref

/- The reference's quotient, root and whole part: what the code has in hand. No condition. -/
namespace Go.Sx.Ref
set_option linter.unusedVariables false
open Go Go.Sx Go.Sx.Flt Ieee
theorem fn0_nat {a : Int} (h : 0 ≤ a) : fnG 0 a 0 0 = (lenN a.toNat : Int) := rfl
theorem u64_lt {n : Nat} (h : n < 18446744073709551616) : IntKind.u64.wrap (n : Int) = n := by rw [u64_wr]; omega
theorem shl_nat {a : Int} {k : Nat} (h : 0 ≤ a) (hk : k ≤ 64) (hlt : a.toNat * 2 ^ k < 18446744073709551616) : IntKind.u64.wrap (a * 2 ^ min k IntKind.u64.bits) = ((a.toNat * 2 ^ k : Nat) : Int) := by
  have e : min k IntKind.u64.bits = k := Nat.min_eq_left hk
  rw [e, ← pow_int h k]
  exact u64_lt hlt
theorem divF {q h l y n : Int} (hq : 0 ≤ q) (hh : 0 ≤ h) (hl : 0 ≤ l ∧ l ≤ 18446744073709551615) (hy : 0 ≤ y) (hn : 0 ≤ n ∧ n < 128) :
    fnG 12 q (h * 18446744073709551616 + l) (y * 128 + n) = ((divL n.toNat l.toNat y.toNat q.toNat h.toNat).1 : Nat) ∧ fnG 13 q (h * 18446744073709551616 + l) (y * 128 + n) = ((divL n.toNat l.toNat y.toNat q.toNat h.toNat).2 : Nat) := by
  simp only [fnG]
  have e1 : (y * 128 + n) % 128 = n := by omega
  have e2 : (y * 128 + n) / 128 = y := by omega
  have e3 : (h * 18446744073709551616 + l) % 18446744073709551616 = l := by omega
  have e4 : (h * 18446744073709551616 + l) / 18446744073709551616 = h := by omega
  rw [e1, e2, e3, e4]
  exact ⟨rfl, rfl⟩
theorem lo_nat (X : Nat) : IntKind.u64.wrap ((X : Int) * 9223372036854775808) = ((X * 9223372036854775808 % 18446744073709551616 : Nat) : Int) := by
  rw [u64_wr, Int.natCast_emod, Int.natCast_mul]; rfl
theorem half_nat (X : Nat) : (X : Int) / 2 = ((X / 2 : Nat) : Int) := by rw [Int.natCast_ediv]; rfl
def shE (a : Int) : Int := IntKind.u64.wrap (a * 2 ^ min (64 - fnG 0 a 0 0).toNat IntKind.u64.bits)
theorem quo_core (f : Format) {a b : Int} (i j : Int) (ha : 0 ≤ a ∧ a ≤ 9007199254740991) (hb : 0 ≤ b ∧ b ≤ 9007199254740991) (a0 : a ≠ 0) (b0 : b ≠ 0) :
    ∃ K R : Nat, K < 18446744073709551616 ∧ fnG 12 0 (shE a / 2 * 18446744073709551616 + IntKind.u64.wrap (shE a * 9223372036854775808)) (shE b * 128 + 64) = K ∧
      fnG 13 0 (shE a / 2 * 18446744073709551616 + IntKind.u64.wrap (shE a * 9223372036854775808)) (shE b * 128 + 64) = R ∧
      quoC f a.toNat i b.toNat j = rungOf f (2 * K + (if R = 0 then 0 else 1)) (i - (64 - fnG 0 a 0 0) - (j - (64 - fnG 0 b 0 0)) + -64) := by
  have za : a.toNat ≠ 0 := by omega
  have zb : b.toNat ≠ 0 := by omega
  obtain ⟨x1, x2⟩ := shl_top za (by omega)
  obtain ⟨y1, y2⟩ := shl_top zb (by omega)
  have la := lenN53 (m := a.toNat) (by omega)
  have lb := lenN53 (m := b.toNat) (by omega)
  have ea : shE a = ((a.toNat * 2 ^ (64 - lenN a.toNat) : Nat) : Int) := by
    unfold shE
    rw [fn0_nat ha.1, show (64 - (lenN a.toNat : Int)).toNat = 64 - lenN a.toNat by omega]
    exact shl_nat ha.1 (by omega) x2
  have eb : shE b = ((b.toNat * 2 ^ (64 - lenN b.toNat) : Nat) : Int) := by
    unfold shE
    rw [fn0_nat hb.1, show (64 - (lenN b.toNat : Int)).toNat = 64 - lenN b.toNat by omega]
    exact shl_nat hb.1 (by omega) y2
  rw [ea, eb]
  obtain ⟨X, hX⟩ : ∃ X, a.toNat * 2 ^ (64 - lenN a.toNat) = X := ⟨_, rfl⟩
  obtain ⟨Y, hY⟩ : ∃ Y, b.toNat * 2 ^ (64 - lenN b.toNat) = Y := ⟨_, rfl⟩
  rw [hX] at x1 x2 ⊢
  rw [hY] at y1 y2 ⊢
  obtain ⟨l, hl⟩ : ∃ l, X * 9223372036854775808 % 18446744073709551616 = l := ⟨_, rfl⟩
  have hl2 : l < 18446744073709551616 := by rw [← hl]; exact Nat.mod_lt _ (by decide)
  obtain ⟨h, hh⟩ : ∃ h, X / 2 = h := ⟨_, rfl⟩
  have hh2 : h < 18446744073709551616 := by omega
  rw [lo_nat, half_nat, hl, hh]
  have d := divF (q := 0) (h := (h : Int)) (l := (l : Int)) (y := (Y : Int)) (n := 64) (by omega) (by omega) (by omega) (by omega) (by omega)
  rw [Int.toNat_natCast, Int.toNat_natCast, Int.toNat_natCast, show (64 : Int).toNat = 64 from rfl, show (0 : Int).toNat = 0 from rfl] at d
  have lt := (divL_lt 64 l Y 0 h (by omega) (by omega) hh2).1
  have q : quoC f a.toNat i b.toNat j = rungOf f (2 * (divL 64 l Y 0 h).1 + (if (divL 64 l Y 0 h).2 = 0 then 0 else 1)) (i - (64 - fnG 0 a 0 0) - (j - (64 - fnG 0 b 0 0)) + -64) := by
    unfold quoC
    simp only
    rw [hX, hY, hl, hh, fn0_nat ha.1, fn0_nat hb.1]
    congr 1
    omega
  generalize divL 64 l Y 0 h = D at d lt q
  exact ⟨D.1, D.2, lt, d.1, d.2, q⟩
theorem quo_word {K : Nat} (h : K < 18446744073709551616) : ((K : Int) / 9223372036854775808) * 18446744073709551616 + bitI .or .u64 (IntKind.u64.wrap ((K : Int) * 2)) 1 = ((2 * K + 1 : Nat) : Int) ∧
    ((K : Int) / 9223372036854775808) * 18446744073709551616 + IntKind.u64.wrap ((K : Int) * 2) = ((2 * K + 0 : Nat) : Int) := by
  have e : IntKind.u64.wrap ((K : Int) * 2) = (K : Int) * 2 % 18446744073709551616 := u64_wr _
  rw [e, or_at 1 (by omega) (by omega) (by omega) (by omega) (by omega)]
  omega
/-! ### the root -/
def shR (a c : Int) : Int := IntKind.u64.wrap (a * 2 ^ min (64 - fnG 0 a 0 0 + c).toNat IntKind.u64.bits)
theorem rootF {r h n : Int} (hr : 0 ≤ r) (hh : 0 ≤ h) : fnG 14 r (h * 18446744073709551616 + 0) n = ((rootL n.toNat (h.toNat * 18446744073709551616) r.toNat : Nat) : Int) := by
  simp only [fnG]
  rw [show (h * 18446744073709551616 + 0).toNat = h.toNat * 18446744073709551616 by omega]
theorem root_core (f : Format) {a : Int} (i : Int) (ha : 0 ≤ a ∧ a ≤ 9007199254740991) (a0 : a ≠ 0) (c : Int) (hc : ((i - (64 - fnG 0 a 0 0 + 62)) % 2 = 1 ∧ c = -3) ∨ (¬ (i - (64 - fnG 0 a 0 0 + 62)) % 2 = 1 ∧ c = -2)) :
    ∃ r H : Nat, r < 18446744073709551616 ∧ H < 18446744073709551616 ∧ shR a c = H ∧ fnG 14 0 (shR a c * 18446744073709551616 + 0) 64 = r ∧
      rootC f a.toNat i = rungOf f (2 * r + (if r * r = H * 18446744073709551616 then 0 else 1)) ((i - (64 - fnG 0 a 0 0 + (64 + c))).tdiv 2 + -1) := by
  have za : a.toNat ≠ 0 := by omega
  have la := lenN53 (m := a.toNat) (by omega)
  have lg := lenN_log za
  rw [fn0_nat ha.1] at hc ⊢
  obtain ⟨L, hL⟩ : ∃ L, lenN a.toNat = L := ⟨_, rfl⟩
  rw [hL] at hc la lg ⊢
  obtain ⟨k, hk⟩ : ∃ k : Nat, (64 - (L : Int) + c).toNat = k := ⟨_, rfl⟩
  have hk2 : (k : Int) = 64 - L + c := by omega
  have hlt : a.toNat * 2 ^ k < 18446744073709551616 := by
    have h4 : a.toNat * 2 ^ k < 2 ^ L * 2 ^ k := Nat.mul_lt_mul_of_pos_right (by rw [← hL]; exact lenN_lt _) (Nat.two_pow_pos _)
    rw [← Nat.pow_add] at h4
    exact Nat.lt_of_lt_of_le h4 (Nat.le_trans (Nat.pow_le_pow_right (by decide) (show L + k ≤ 64 by omega)) (by decide))
  have eR : shR a c = ((a.toNat * 2 ^ k : Nat) : Int) := by
    unfold shR
    rw [fn0_nat ha.1, hL, hk]
    exact shl_nat ha.1 (by omega) hlt
  rw [eR]
  have e := rootF (r := 0) (h := ((a.toNat * 2 ^ k : Nat) : Int)) (n := 64) (by omega) (Int.natCast_nonneg _)
  rw [Int.toNat_natCast, show (64 : Int).toNat = 64 from rfl, show (0 : Int).toNat = 0 from rfl] at e
  refine ⟨_, _, rootL_lt 64 _ 0 (by omega) (by omega), hlt, rfl, e, ?_⟩
  unfold rootC
  simp only
  rw [hL]
  obtain ⟨d, hd⟩ : ∃ d, (if (i - ((126 - L : Nat) : Int)) % 2 = 1 then 126 - L - 1 else 126 - L) = d := ⟨_, rfl⟩
  have hd2 : d = k + 64 := by
    rw [← hd]
    rcases hc with ⟨h1, h2⟩ | ⟨h1, h2⟩
    · rw [if_pos (by omega)]; omega
    · rw [if_neg (by omega)]; omega
  have hp : a.toNat * 2 ^ d = a.toNat * 2 ^ k * 18446744073709551616 := by rw [hd2, Nat.pow_add, ← Nat.mul_assoc]
  rw [hd, hp]
  congr 1
  have hev : (i - d) % 2 = 0 := by rw [← hd]; rcases hc with ⟨h1, h2⟩ | ⟨h1, h2⟩ <;> split <;> omega
  have : (i - (64 - (L : Int) + (64 + c))).tdiv 2 = (i - d) / 2 := by
    rw [show i - (64 - (L : Int) + (64 + c)) = i - d by omega]
    obtain ⟨w, hw⟩ : ∃ w, i - d = 2 * w := ⟨(i - d) / 2, by omega⟩
    rw [hw, Int.mul_tdiv_cancel_left _ (by decide), Int.mul_ediv_cancel_left _ (by decide)]
  rw [this]
  omega
theorem root_sq {r H : Nat} (hr : r < 18446744073709551616) (hH : H < 18446744073709551616) : (IntKind.u64.wrap ((r : Int) * r / 18446744073709551616) = H ∧ IntKind.u64.wrap ((r : Int) * r) = 0) ↔ r * r = H * 18446744073709551616 := by
  have htt : r * r < 18446744073709551616 * 18446744073709551616 := Nat.mul_lt_mul'' hr hr
  rw [u64_wr, u64_wr, ← Int.natCast_mul]
  generalize r * r = T at htt ⊢
  omega
/-! ### the whole part -/
theorem lost_in (n : Nat) (k : Int) : lost n k = -1 ∨ lost n k = 0 ∨ lost n k = 1 ∨ lost n k = 2 := by
  unfold lost
  repeat' split
  all_goals omega
theorem up_even (s : Bool) (n : Nat) {d : Int} (hd : 0 < d) : upBit .even s n d.toNat = decide (lost n d = 1 ∨ (lost n d = 0 ∧ n / 2 ^ d.toNat % 2 = 1)) := by
  have hp := Nat.two_pow_pos d.toNat
  unfold upBit lost
  rw [if_neg (by omega)]
  by_cases h0 : n % 2 ^ d.toNat = 0
  · rw [if_pos h0, h0]; simp
  · rw [if_neg h0]
    by_cases h1 : 2 * (n % 2 ^ d.toNat) < 2 ^ d.toNat
    · rw [if_pos h1]
      have h2 : ¬ 2 ^ d.toNat < 2 * (n % 2 ^ d.toNat) := by omega
      have h3 : ¬ 2 ^ d.toNat = 2 * (n % 2 ^ d.toNat) := by omega
      simp [h2, h3]
    · rw [if_neg h1]
      by_cases h2 : 2 * (n % 2 ^ d.toNat) = 2 ^ d.toNat
      · rw [if_pos h2]
        rw [Bool.eq_iff_iff]
        simp [h2]
      · rw [if_neg h2]
        have h3 : 2 ^ d.toNat < 2 * (n % 2 ^ d.toNat) := by omega
        simp [h3]
theorem up_side (s : Bool) (n : Nat) {d : Int} (hd : 0 < d) : upBit .up s n d.toNat = (!s && decide (lost n d ≠ 2)) ∧ upBit .down s n d.toNat = (s && decide (lost n d ≠ 2)) := by
  have h : (n % 2 ^ d.toNat != 0) = decide (lost n d ≠ 2) := by
    unfold lost
    rw [if_neg (by omega)]
    by_cases h0 : n % 2 ^ d.toNat = 0
    · rw [if_pos h0, h0]; rfl
    · rw [if_neg h0]
      have : (n % 2 ^ d.toNat != 0) = true := by simp [h0]
      rw [this]
      symm
      apply decide_eq_true
      repeat' split
      all_goals omega
  unfold upBit
  rw [h]
  exact ⟨rfl, rfl⟩
theorem whole_null (f : Format) (way : Toward) (s : Bool) : wholeR f way s 0 = 0 := by
  unfold wholeR
  split
  · rfl
  · have : magOf f 0 = 0 := by unfold magOf; rw [if_pos (binade_pos f)]
    rw [this, Nat.zero_div]
    have hu : upBit way s 0 (-placeOf f 0).toNat = false := by
      cases h : upBit way s 0 (-placeOf f 0).toNat
      · rfl
      · exact absurd (Nat.zero_mod _) (upBit_rem h)
    rw [hu]
    rfl
end Go.Sx.Ref

/- The reference's whole part of a double, and how a double is taken apart. No condition. -/
namespace Go.Sx.Ref
set_option linter.unusedVariables false
open Go Go.Sx Go.Sx.Flt Ieee
theorem iteP_of_pos {p : Prop} {a b c : Int} (h : p) (e : c = a) : c = iteP p a b := by rw [iteP_pos h]; exact e
theorem iteP_of_neg {p : Prop} {a b c : Int} (h : ¬ p) (e : c = b) : c = iteP p a b := by rw [iteP_neg h]; exact e
theorem iteP_four {p q r : Prop} {V A B C D : Int} (a : V = A) (b : V = B) (c : V = C) (d : V = D) : V = iteP p A (iteP q B (iteP r C D)) := by
  unfold iteP
  repeat' split
  all_goals assumption
theorem iteP_same {p q : Prop} {a b c d : Int} (h : p ↔ q) (e : a = c) (f : b = d) : iteP p a b = iteP q c d := by
  by_cases g : p
  · rw [iteP_pos g, iteP_pos (h.1 g)]; exact e
  · rw [iteP_neg g, iteP_neg (fun k => g (h.2 k))]; exact f
theorem den_addP (ρ : Env) (a b : E) : (E.bin .add a b).den ρ = a.den ρ + b.den ρ := rfl
theorem add_same {a b c : Int} (h : b = c) : a + b = a + c := by rw [h]
theorem mgD {x : Int} (hx : 0 ≤ x ∧ x ≤ 18446744073709551615) : mg .f64 x = x % 9223372036854775808 := by
  unfold mg
  rw [kM64]
  split <;> omega
theorem magD {x : Int} (hx : 0 ≤ x ∧ x ≤ 18446744073709551615) (h : x % 9223372036854775808 < 9218868437227405312) :
    iteP (x % 9223372036854775808 < 4503599627370496) (x % 9223372036854775808) (iteP (x % 9223372036854775808 < 9218868437227405312) (4503599627370496 + x % 9223372036854775808 % 4503599627370496) (x % 9223372036854775808 - 9218868437227405312)) = (mO .f64 x : Int) := by
  have hb : FloatKind.f64.format.binade = 4503599627370496 := by decide
  unfold mO magOf
  rw [hb, mgD hx]
  by_cases c : x % 9223372036854775808 < 4503599627370496
  · rw [iteP_pos c, if_pos (by omega)]; omega
  · rw [iteP_neg c, iteP_pos h, if_neg (by omega)]; omega
theorem plcD {x : Int} (hx : 0 ≤ x ∧ x ≤ 18446744073709551615) (h : x % 9223372036854775808 < 9218868437227405312) :
    iteP (x % 9223372036854775808 < 4503599627370496) (-1074) (iteP (x % 9223372036854775808 < 9218868437227405312) (-1075 + x % 9223372036854775808 / 4503599627370496) 0) = pO .f64 x := by
  have hb : FloatKind.f64.format.binade = 4503599627370496 := by decide
  have hl : FloatKind.f64.format.leastPlace = -1074 := by decide
  unfold pO placeOf
  rw [hb, hl, mgD hx]
  by_cases c : x % 9223372036854775808 < 4503599627370496
  · rw [iteP_pos c, if_pos (by omega)]
  · rw [iteP_neg c, iteP_pos h, if_neg (by omega)]; omega
theorem pO_in {x : Int} (hx : 0 ≤ x ∧ x ≤ 18446744073709551615) (h : x % 9223372036854775808 < 9218868437227405312) : -1074 ≤ pO .f64 x ∧ pO .f64 x ≤ 971 := by
  rw [← plcD hx h]
  exact iteP_in (fun _ => by omega) fun _ => iteP_in (fun _ => by omega) fun _ => by omega
theorem mO_in (x : Int) : 0 ≤ (mO .f64 x : Int) ∧ (mO .f64 x : Int) ≤ 9007199254740991 := by have := mO_lt .f64 x; omega
theorem mO_null {x : Int} (hx : 0 ≤ x ∧ x ≤ 18446744073709551615) (h : x % 9223372036854775808 < 9218868437227405312) : (mO .f64 x : Int) = 0 ↔ x % 9223372036854775808 = 0 := by
  have := mO_zero (k := .f64) (x := x) hx (by rw [mgD hx]; exact h)
  rw [mgD hx] at this
  omega
theorem sg_iteP (x : Int) : Go.Sx.sg x = iteP (9223372036854775808 ≤ x) 9223372036854775808 0 := by
  unfold Go.Sx.sg
  by_cases h : 9223372036854775808 ≤ x
  · rw [if_pos h, iteP_pos h]
  · rw [if_neg h, iteP_neg h]
theorem whole_self {x : Int} (way : Toward) (hx : 0 ≤ x ∧ x ≤ 18446744073709551615) (h : x % 9223372036854775808 ≤ 9218868437227405312) (hw : x % 9223372036854775808 = 9218868437227405312 ∨ x % 9223372036854775808 = 0 ∨ 0 ≤ pO .f64 x) : fwholeI way x = x := by
  have hr : (rgW way x : Int) = x % 9223372036854775808 := by
    unfold rgW
    rw [mgD hx, kI64]
    by_cases hi : x % 9223372036854775808 = 9218868437227405312
    · rw [if_pos hi, hi]; rfl
    · rw [if_neg hi]
      rcases hw.resolve_left hi with h0 | h0
      · rw [h0, show (0 : Int).toNat = 0 from rfl, whole_null]; rfl
      · unfold pO at h0
        rw [mgD hx] at h0
        unfold wholeR
        rw [if_pos (show 0 ≤ placeOf Ieee.double (x % 9223372036854775808).toNat from h0)]; omega
  rw [(fwhole_word (way := way) (x := x) hx (by rw [mgD hx]; exact h)).1, hr]
  unfold Go.Sx.sg
  split <;> omega
theorem canon {V nan : Int} (h : 0 ≤ V) : V = iteP (V = -1) nan V := iteP_of_neg (by omega) rfl
theorem fn4_word (N : Nat) (e : Int) : fnG 4 (N : Int) e 0 = ((rungOf Ieee.double N e : Nat) : Int) := rfl
theorem whole_code {x N nan : Int} {way : Toward} (hx : 0 ≤ x ∧ x ≤ 18446744073709551615) (h : x % 9223372036854775808 < 9218868437227405312) (hp : pO .f64 x < 0)
    (hN : N = ((mO .f64 x / 2 ^ (-pO .f64 x).toNat + (upBit way (decide (9223372036854775808 ≤ x)) (mO .f64 x) (-pO .f64 x).toNat).toNat : Nat) : Int)) :
    iteP (9223372036854775808 ≤ x) 9223372036854775808 0 + fnG 4 N 0 0 = iteP (fwholeI way x = -1) nan (fwholeI way x) := by
  have hf := (fwhole_word (way := way) (x := x) hx (by rw [mgD hx]; exact Int.le_of_lt h)).1
  have hr : rgW way x = rungOf Ieee.double (mO .f64 x / 2 ^ (-pO .f64 x).toNat + (upBit way (decide (9223372036854775808 ≤ x)) (mO .f64 x) (-pO .f64 x).toNat).toNat) 0 := by
    unfold rgW
    rw [if_neg (by rw [mgD hx, kI64]; omega)]
    unfold wholeR
    rw [if_neg (show ¬ 0 ≤ placeOf Ieee.double (mg .f64 x).toNat from Int.not_le.2 hp)]
    rfl
  have e : fwholeI way x = iteP (9223372036854775808 ≤ x) 9223372036854775808 0 + fnG 4 N 0 0 := by
    rw [hf, sg_iteP, hr, hN, fn4_word]
  rw [e]
  refine canon ?_
  have := fn4_in N 0
  have h2 : 0 ≤ iteP (9223372036854775808 ≤ x) 9223372036854775808 0 ∧ iteP (9223372036854775808 ≤ x) 9223372036854775808 0 ≤ 9223372036854775808 := iteP_in (fun _ => by omega) (fun _ => by omega)
  omega
theorem fn2_mO {x : Int} : fnG 2 (0 + (mO .f64 x : Int)) (0 - pO .f64 x) 0 = ((mO .f64 x / 2 ^ (-pO .f64 x).toNat : Nat) : Int) := by
  simp only [fnG]
  rw [Int.zero_add, Int.toNat_natCast, Int.zero_sub]
theorem fn3_mO {x : Int} : fnG 3 (0 + (mO .f64 x : Int)) (0 - pO .f64 x) 0 = lost (mO .f64 x) (-pO .f64 x) := by
  simp only [fnG]
  rw [Int.zero_add, Int.toNat_natCast, Int.zero_sub]
end Go.Sx.Ref

/- The reference's floats in numbers: quotient, root, whole part. No condition. -/
namespace Go.Proofs.Ytnodelimomljbaa.PlainRefD
open Go Go.Sx Go.Sx.Flt Go.Sx.Ref Go.Proofs.Ytnodelimomljbaa.RunRefD Go.Proofs.Ytnodelimomljbaa.PlainRefA Go.Proofs.Ytnodelimomljbaa.PlainRefB Go.Proofs.Ytnodelimomljbaa.PlainRefC
set_option linter.unusedSimpArgs false
set_option linter.unusedVariables false
theorem fn8 {X i Y j : Int} (hX : 0 ≤ X) (hY : 0 ≤ Y) (hi : -1074 ≤ i ∧ i ≤ 971) (hj : -1074 ≤ j ∧ j ≤ 971) : fnG 8 (X * 4096 + (i + 2048)) (Y * 4096 + (j + 2048)) 0 = (quoC Ieee.double X.toNat i Y.toNat j : Nat) := by
  simp only [fnG]
  rw [(pk_of hX (e := i) (by omega)).1, (pk_of hX (e := i) (by omega)).2, (pk_of hY (e := j) (by omega)).1, (pk_of hY (e := j) (by omega)).2]
theorem fn10 {X i : Int} (hX : 0 ≤ X) (hi : -1074 ≤ i ∧ i ≤ 971) : fnG 10 (X * 4096 + (i + 2048)) 0 0 = (rootC Ieee.double X.toNat i : Nat) := by
  simp only [fnG]
  rw [(pk_of hX (e := i) (by omega)).1, (pk_of hX (e := i) (by omega)).2]
set_option maxHeartbeats 1000000 in
theorem quo_plain (u : Nat → Int) (hk : KindOk u 0 quoD.sp.ks) (hp : pcOk ⟨u, fnG⟩ quoD.sp.pre) : Keeps ⟨u, fnG⟩ quoD.sp.res quoDR := by
  obtain ⟨s0, s1, s2, s5, s6, s7, m1, e1, m2, e2⟩ := two_of hk hp
  simp only [quoD, quoDR, Keeps, chain, unOne, List.length, Nat.beq, SameL, quoE, xorE, no, un, f2, pk, Ref.sg, sgI, zeroE, nan64', I64, M63, v, bi, den_iteP, den_addP, E.prop]
  simp only [E.prop, E.den, Bi.den, Un.den, nn01 s0, nn01 s5]
  have core := fun (h3 : u 3 ≠ 0) (h8 : u 8 ≠ 0) => quo_core Ieee.double (u 4) (u 9) m1 m2 h3 h8
  unfold shE at core
  refine ⟨?_, ?_, ?_, ?_, ?_, ?_, ?_, ?_, ?_, ?_, ?_, ?_, ?_, trivial⟩
  · intro p1 p2 p3 p4 p5 p6 p7 p8 h2
    exact ⟨trivial, iteP_of_pos (by omega) rfl, trivial⟩
  · intro p1 p2 p3 p4 p5 p6 p7 p8 h2 h7
    exact ⟨trivial, iteP_of_pos (by omega) rfl, trivial⟩
  · intro p1 p2 p3 p4 p5 p6 p7 p8 h2 h7 h1 h6
    exact ⟨trivial, iteP_of_pos (by omega) rfl, trivial⟩
  · intro p1 p2 p3 p4 p5 p6 p7 p8 h2 h7 h1 h6
    exact ⟨trivial, iteP_of_neg (by omega) (iteP_of_pos (by omega) rfl), trivial⟩
  · intro p1 p2 p3 p4 p5 p6 p7 p8 h2 h7 h1 h6 h3 h8
    exact ⟨trivial, iteP_of_pos (by omega) rfl, trivial⟩
  · intro p1 p2 p3 p4 p5 p6 p7 p8 h2 h7 h1 h6 h3 h8
    exact ⟨trivial, iteP_of_neg (by omega) (iteP_of_neg (by omega) (iteP_of_pos (by omega) rfl)), trivial⟩
  · intro p1 p2 p3 p4 p5 p6 p7 p8 h2 h7 h1 h6 h3 h8
    exact ⟨trivial, iteP_of_neg (by omega) (iteP_of_pos (by omega) rfl), trivial⟩
  · intro p1 p2 p3 p4 p5 p6 p7 p8 h2 h7 h1 h6 h3 h8 hr
    obtain ⟨K, R, hK, e12, e13, eq⟩ := core h3 h8
    rw [e13] at hr
    refine ⟨trivial, iteP_of_neg (by omega) (iteP_of_neg (by omega) (iteP_of_neg (by omega) (add_same ?_))), trivial⟩
    rw [e12, (quo_word hK).1, fn4_word, fn8 m1.1 m2.1 e1 e2, eq, if_neg (by omega)]
  · intro p1 p2 p3 p4 p5 p6 p7 p8 h2 h7 h1 h6 h3 h8 hr
    obtain ⟨K, R, hK, e12, e13, eq⟩ := core h3 h8
    rw [e13] at hr
    refine ⟨trivial, iteP_of_neg (by omega) (iteP_of_neg (by omega) (iteP_of_neg (by omega) (add_same ?_))), trivial⟩
    rw [e12, (quo_word hK).2, fn4_word, fn8 m1.1 m2.1 e1 e2, eq, if_pos (by omega)]
  · intro p1 p2 p3 p4 p5 p6 p7 p8 h2 h7 h1 h6 h6'
    exact ⟨trivial, iteP_of_neg (by omega) (iteP_of_neg (by omega) (iteP_of_pos (by omega) rfl)), trivial⟩
  · intro p1 p2 p3 p4 p5 p6 p7 p8 h2 h7 h1 h6 h6'
    exfalso; omega
  · intro p1 p2 p3 p4 p5 p6 p7 p8 h2 h7 h1 h6 h6'
    exfalso; omega
  · intro p1 p2 p3 p4 p5 p6 p7 p8 h2 h7 h1 h6 h6'
    exfalso; omega
theorem bd_of {e : E} {u : Nat → Int} (h : 0 ≤ e.den ⟨u, fnG⟩ ∧ e.den ⟨u, fnG⟩ ≤ 18446744073709551615) : Bd.ok ⟨u, fnG⟩ [(e, W64)] := fun p hq => by
  simp only [List.mem_singleton] at hq
  subst hq
  exact ⟨fun _ g => by cases g; exact h.1, fun _ g => by cases g; exact h.2⟩
theorem sum_bd {p : Prop} {N : Int} (hN : 0 ≤ N ∧ N ≤ 9218868437227405312) : 0 ≤ iteP p 9223372036854775808 0 + N ∧ iteP p 9223372036854775808 0 + N ≤ 18446744073709551615 := by
  have h2 : 0 ≤ iteP p 9223372036854775808 0 ∧ iteP p 9223372036854775808 0 ≤ 9223372036854775808 := iteP_in (fun _ => by omega) (fun _ => by omega)
  omega
theorem rung_in (n : Nat) (e : Int) : 0 ≤ ((rungOf Ieee.double n e : Nat) : Int) ∧ ((rungOf Ieee.double n e : Nat) : Int) ≤ 9218868437227405312 := fn4_in n e
theorem quo_bd (u : Nat → Int) (hk : KindOk u 0 quoD.sp.ks) (hp : pcOk ⟨u, fnG⟩ quoD.sp.pre) : quoD.sp.bds.ok ⟨u, fnG⟩ := by
  refine bd_of ?_
  simp only [quoE, f2, pk, Ref.sg, sgI, nan64', I64, M63, v, bi, den_iteP, den_addP, E.prop]
  simp only [E.den, Bi.den]
  exact iteP_in (fun _ => by omega) fun _ => iteP_in (fun _ => iteP_in (fun _ => by omega) fun _ => by omega) fun _ => iteP_in (fun _ => iteP_in (fun _ => by omega) fun _ => by omega) fun _ => sum_bd (rung_in _ _)
/-! ### the root -/
set_option maxHeartbeats 1000000 in
theorem root_plain (u : Nat → Int) (hk : KindOk u 0 rootD.sp.ks) (hp : pcOk ⟨u, fnG⟩ rootD.sp.pre) : Keeps ⟨u, fnG⟩ rootD.sp.res rootDR := by
  have s0 := bool_of hk.1
  have p1 := le_of (hp (bi .le (.lit 0) (v 3)) (by simp [rootD, preM, preE]))
  have p2 := le_of (hp (bi .le (v 3) (.lit 9007199254740991)) (by simp [rootD, preM, preE]))
  have p3 := le_of (hp (bi .le (.lit (-1074)) (v 4)) (by simp [rootD, preM, preE]))
  have p4 := le_of (hp (bi .le (v 4) (.lit 971)) (by simp [rootD, preM, preE]))
  have m1 : 0 ≤ u 3 ∧ u 3 ≤ 9007199254740991 := ⟨p1, p2⟩
  have e1 : -1074 ≤ u 4 ∧ u 4 ≤ 971 := ⟨p3, p4⟩
  clear p1 p2 p3 p4
  simp only [rootD, rootDR, Keeps, chain, unOne, List.length, Nat.beq, SameL, rootE, no, un, f1, pk, Ref.sg, zeroE, nan64', I64, M63, v, bi, den_iteP, den_addP, E.prop]
  simp only [E.prop, E.den, Bi.den, Un.den]
  have core := fun (h3 : u 3 ≠ 0) => root_core Ieee.double (u 4) m1 h3
  unfold shR at core
  have fin : ∀ {c : Int} {r H : Nat}, r < 18446744073709551616 → H < 18446744073709551616 → ∀ {p : Prop}, ¬ p → ∀ W e : Int,
      (W = ((2 * r + 1 : Nat) : Int) → ¬ r * r = H * 18446744073709551616 → iteP p 9223372036854775808 0 + fnG 4 W e 0 = ((rungOf Ieee.double (2 * r + (if r * r = H * 18446744073709551616 then 0 else 1)) e : Nat) : Int)) ∧
      (W = ((2 * r + 0 : Nat) : Int) → r * r = H * 18446744073709551616 → iteP p 9223372036854775808 0 + fnG 4 W e 0 = ((rungOf Ieee.double (2 * r + (if r * r = H * 18446744073709551616 then 0 else 1)) e : Nat) : Int)) := by
    intro c r H hr hH p hp W e
    refine ⟨fun h g => ?_, fun h g => ?_⟩
    · rw [iteP_neg hp, h, if_neg g, fn4_word, Int.zero_add]
    · rw [iteP_neg hp, h, if_pos g, fn4_word, Int.zero_add]
  refine ⟨?_, ?_, ?_, ?_, ?_, ?_, ?_, ?_, ?_, ?_, ?_, ?_, trivial⟩
  · intro p1 p2 p3 p4 h2
    exact ⟨trivial, iteP_of_pos (by omega) rfl, trivial⟩
  · intro p1 p2 p3 p4 h2 h0 h1
    exact ⟨trivial, iteP_of_pos (by omega) rfl, trivial⟩
  · intro p1 p2 p3 p4 h2 h0 h1 h3
    exact ⟨trivial, iteP_of_pos (by omega) rfl, trivial⟩
  · intro p1 p2 p3 p4 h2 h0 h1 h3
    exact ⟨trivial, iteP_of_neg (by omega) (iteP_of_neg (by omega) (iteP_of_pos (by omega) (iteP_same (by omega) rfl rfl))), trivial⟩
  · intro p1 p2 p3 p4 h2 h0 h1
    exact ⟨trivial, iteP_of_neg (by omega) (iteP_of_pos (by omega) (iteP_neg (by omega) _ _)), trivial⟩
  · intro p1 p2 p3 p4 h2 h0 h1 h3
    exact ⟨trivial, iteP_of_neg (by omega) (iteP_of_neg (by omega) (iteP_of_pos (by omega) (iteP_same (by omega) rfl rfl))), trivial⟩
  · intro p1 p2 p3 p4 h2 h0 h1 h3 hc hr
    obtain ⟨r, H, hr1, hH, eH, er, eq⟩ := core h3 (-3) (.inl ⟨hc, rfl⟩)
    rw [er, u64_lt hr1, eH] at hr
    refine ⟨trivial, iteP_of_neg (by omega) (iteP_of_neg (by omega) (iteP_of_neg (by omega) ?_)), trivial⟩
    rw [fn10 m1.1 e1, eq, er, u64_lt hr1]
    exact (fin (c := 0) hr1 hH (by omega) _ _).1 (quo_word hr1).1 (fun g => hr ((root_sq hr1 hH).2 g).1)
  · intro p1 p2 p3 p4 h2 h0 h1 h3 hc hr hl
    obtain ⟨r, H, hr1, hH, eH, er, eq⟩ := core h3 (-3) (.inl ⟨hc, rfl⟩)
    rw [er, u64_lt hr1, eH] at hr
    rw [er, u64_lt hr1] at hl
    refine ⟨trivial, iteP_of_neg (by omega) (iteP_of_neg (by omega) (iteP_of_neg (by omega) ?_)), trivial⟩
    rw [fn10 m1.1 e1, eq, er, u64_lt hr1]
    exact (fin (c := 0) hr1 hH (by omega) _ _).1 (quo_word hr1).1 (fun g => hl ((root_sq hr1 hH).2 g).2)
  · intro p1 p2 p3 p4 h2 h0 h1 h3 hc hr hl
    obtain ⟨r, H, hr1, hH, eH, er, eq⟩ := core h3 (-3) (.inl ⟨hc, rfl⟩)
    rw [er, u64_lt hr1, eH] at hr
    rw [er, u64_lt hr1] at hl
    refine ⟨trivial, iteP_of_neg (by omega) (iteP_of_neg (by omega) (iteP_of_neg (by omega) ?_)), trivial⟩
    rw [fn10 m1.1 e1, eq, er, u64_lt hr1]
    exact (fin (c := 0) hr1 hH (by omega) _ _).2 (quo_word hr1).2 ((root_sq hr1 hH).1 ⟨hr, hl⟩)
  · intro p1 p2 p3 p4 h2 h0 h1 h3 hc hr
    obtain ⟨r, H, hr1, hH, eH, er, eq⟩ := core h3 (-2) (.inr ⟨hc, rfl⟩)
    rw [er, u64_lt hr1, eH] at hr
    refine ⟨trivial, iteP_of_neg (by omega) (iteP_of_neg (by omega) (iteP_of_neg (by omega) ?_)), trivial⟩
    rw [fn10 m1.1 e1, eq, er, u64_lt hr1]
    exact (fin (c := 0) hr1 hH (by omega) _ _).1 (quo_word hr1).1 (fun g => hr ((root_sq hr1 hH).2 g).1)
  · intro p1 p2 p3 p4 h2 h0 h1 h3 hc hr hl
    obtain ⟨r, H, hr1, hH, eH, er, eq⟩ := core h3 (-2) (.inr ⟨hc, rfl⟩)
    rw [er, u64_lt hr1, eH] at hr
    rw [er, u64_lt hr1] at hl
    refine ⟨trivial, iteP_of_neg (by omega) (iteP_of_neg (by omega) (iteP_of_neg (by omega) ?_)), trivial⟩
    rw [fn10 m1.1 e1, eq, er, u64_lt hr1]
    exact (fin (c := 0) hr1 hH (by omega) _ _).1 (quo_word hr1).1 (fun g => hl ((root_sq hr1 hH).2 g).2)
  · intro p1 p2 p3 p4 h2 h0 h1 h3 hc hr hl
    obtain ⟨r, H, hr1, hH, eH, er, eq⟩ := core h3 (-2) (.inr ⟨hc, rfl⟩)
    rw [er, u64_lt hr1, eH] at hr
    rw [er, u64_lt hr1] at hl
    refine ⟨trivial, iteP_of_neg (by omega) (iteP_of_neg (by omega) (iteP_of_neg (by omega) ?_)), trivial⟩
    rw [fn10 m1.1 e1, eq, er, u64_lt hr1]
    exact (fin (c := 0) hr1 hH (by omega) _ _).2 (quo_word hr1).2 ((root_sq hr1 hH).1 ⟨hr, hl⟩)
theorem root_bd (u : Nat → Int) (hk : KindOk u 0 rootD.sp.ks) (hp : pcOk ⟨u, fnG⟩ rootD.sp.pre) : rootD.sp.bds.ok ⟨u, fnG⟩ := by
  refine bd_of ?_
  simp only [rootE, f1, pk, Ref.sg, nan64', I64, M63, v, bi, den_iteP, den_addP, E.prop]
  simp only [E.den, Bi.den]
  refine iteP_in (fun _ => by omega) fun _ => iteP_in (fun _ => by omega) fun _ => iteP_in (fun _ => iteP_in (fun _ => by omega) fun _ => by omega) fun _ => ?_
  have : 0 ≤ fnG 10 (u 3 * 4096 + (u 4 + 2048)) 0 0 ∧ fnG 10 (u 3 * 4096 + (u 4 + 2048)) 0 0 ≤ 9218868437227405312 := rung_in _ _
  omega
/-! ### the whole part -/
set_option maxHeartbeats 1000000 in
theorem whole_plain (u : Nat → Int) (hk : KindOk u 0 wholeD.sp.ks) (hp : pcOk ⟨u, fnG⟩ wholeD.sp.pre) : Keeps ⟨u, fnG⟩ wholeD.sp.res wholeDR := by
  have hx : 0 ≤ u 1 ∧ u 1 ≤ 18446744073709551615 := of_kind hk.2.1
  simp only [magE, plcE, rE, B52, I64, M63, wholeD, wholeDR, Keeps, chain, unOne, List.length, Nat.beq, SameL, wholeE, canU, un, nan64', v, bi, den_iteP, den_addP, E.prop]
  simp only [E.prop, E.den, Bi.den, Un.den]
  have hnan : ∀ way, 9218868437227405312 < u 1 % 9223372036854775808 → (9221120237041090560 : Int) = iteP (fwholeI way (u 1) = -1) 9221120237041090560 (fwholeI way (u 1)) := fun way h =>
    iteP_of_pos (fwhole_nan (x := u 1) hx (by rw [mgD hx]; exact h)) rfl
  have hself : ∀ way, u 1 % 9223372036854775808 ≤ 9218868437227405312 → (u 1 % 9223372036854775808 = 9218868437227405312 ∨ u 1 % 9223372036854775808 = 0 ∨ 0 ≤ pO .f64 (u 1)) → u 1 = iteP (fwholeI way (u 1) = -1) 9221120237041090560 (fwholeI way (u 1)) := fun way h g => by
    rw [whole_self way hx h g]; exact canon hx.1
  have hm := fun h => magD (x := u 1) hx h
  have hq := fun h => plcD (x := u 1) hx h
  have hz := fun h => mO_null (x := u 1) hx h
  generalize iteP (u 1 % 9223372036854775808 < 4503599627370496) (u 1 % 9223372036854775808) _ = M at hm ⊢
  generalize iteP (u 1 % 9223372036854775808 < 4503599627370496) (-1074) _ = P at hq ⊢
  have code : u 1 % 9223372036854775808 < 9218868437227405312 → P < 0 → u 2 = M → u 3 = P → u 5 = IntKind.u64.wrap (fnG 2 (0 + u 2) (0 - u 3) 0) → u 6 = fnG 3 (0 + u 2) (0 - u 3) 0 →
      ∀ way (N : Int), (∀ D : Nat, u 5 = D → D ≤ 9007199254740992 → N = ((D + (upBit way (decide (9223372036854775808 ≤ u 1)) (mO .f64 (u 1)) (-pO .f64 (u 1)).toNat).toNat : Nat) : Int)) →
        iteP (9223372036854775808 ≤ u 1) 9223372036854775808 0 + fnG 4 (0 + N) 0 0 = iteP (fwholeI way (u 1) = -1) 9221120237041090560 (fwholeI way (u 1)) := by
    intro hi hP a2 a3 a5 a6 way N hN
    rw [Int.zero_add]
    refine whole_code hx hi (by rw [← hq hi]; exact hP) ?_
    rw [a2, a3, hm hi, hq hi, fn2_mO] at a5
    have hd : mO .f64 (u 1) / 2 ^ (-pO .f64 (u 1)).toNat ≤ 9007199254740992 := Nat.le_trans (Nat.div_le_self _ _) (Nat.le_of_lt (mO_lt _ _))
    rw [u64_lt (by omega)] at a5
    exact hN _ a5 hd
  have h6 : u 1 % 9223372036854775808 < 9218868437227405312 → u 2 = M → u 3 = P → u 6 = fnG 3 (0 + u 2) (0 - u 3) 0 → u 6 = lost (mO .f64 (u 1)) (-pO .f64 (u 1)) := fun hi a2 a3 a6 => by
    rw [a6, a2, a3, hm hi, hq hi, fn3_mO]
  have hd0 : u 1 % 9223372036854775808 < 9218868437227405312 → P < 0 → 0 < -pO .f64 (u 1) := fun hi h => by rw [← hq hi]; omega
  have h5 : ∀ D : Nat, u 5 = D → D ≤ 9007199254740992 → IntKind.u64.wrap (u 5 + 1) = ((D + 1 : Nat) : Int) := fun D h g => by rw [h, u64_wr]; omega
  have bit : ∀ {b c : Bool} {D : Nat}, b = c → D + b.toNat = D + c.toNat := fun h => by rw [h]
  refine ⟨?_, ?_, ?_, ?_, ?_, ?_, ?_, ?_, ?_, ?_, ?_, ?_, ?_, ?_, ?_, trivial⟩
  · intro p1 p2 a2 a3 h
    exact ⟨trivial, iteP_four (hnan _ h) (hnan _ h) (hnan _ h) (hnan _ h), trivial⟩
  · intro p1 p2 a2 a3 h h1
    exact ⟨trivial, iteP_four (hself _ h (.inl h1)) (hself _ h (.inl h1)) (hself _ h (.inl h1)) (hself _ h (.inl h1)), trivial⟩
  · intro p1 p2 a2 a3 h h1 h2
    have g := (hz (by omega)).1 (by rw [← hm (by omega), ← a2]; exact h2)
    exact ⟨trivial, iteP_four (hself _ h (.inr (.inl g))) (hself _ h (.inr (.inl g))) (hself _ h (.inr (.inl g))) (hself _ h (.inr (.inl g))), trivial⟩
  · intro p1 p2 a2 a3 h h1 h2 h3
    have g : 0 ≤ pO .f64 (u 1) := by rw [← hq (by omega), ← a3]; exact h3
    exact ⟨trivial, iteP_four (hself _ h (.inr (.inr g))) (hself _ h (.inr (.inr g))) (hself _ h (.inr (.inr g))) (hself _ h (.inr (.inr g))), trivial⟩
  · intro p1 p2 a2 a3 h h1 h2 h3 a4 a5 a6 h0 hs hl
    have hi : u 1 % 9223372036854775808 < 9218868437227405312 := by omega
    refine ⟨trivial, iteP_of_pos h0 (code hi (by omega) a2 a3 a5 a6 .up _ fun D hD hD2 => ?_), trivial⟩
    rw [h5 D hD hD2, (up_side _ _ (hd0 hi (by omega))).1, ← h6 hi a2 a3 a6]
    have hs' : ¬ 9223372036854775808 ≤ u 1 := by omega
    simp [hl, hs']
  · intro p1 p2 a2 a3 h h1 h2 h3 a4 a5 a6 h0 hs hl
    have hi : u 1 % 9223372036854775808 < 9218868437227405312 := by omega
    refine ⟨trivial, iteP_of_pos h0 (code hi (by omega) a2 a3 a5 a6 .up _ fun D hD hD2 => ?_), trivial⟩
    rw [hD, (up_side _ _ (hd0 hi (by omega))).1, ← h6 hi a2 a3 a6]
    simp [hl]
  · intro p1 p2 a2 a3 h h1 h2 h3 a4 a5 a6 h0 hs
    have hi : u 1 % 9223372036854775808 < 9218868437227405312 := by omega
    refine ⟨trivial, iteP_of_pos h0 (code hi (by omega) a2 a3 a5 a6 .up _ fun D hD hD2 => ?_), trivial⟩
    rw [hD, (up_side _ _ (hd0 hi (by omega))).1]
    simp [hs]
  · intro p1 p2 a2 a3 h h1 h2 h3 a4 a5 a6 h0 h0' hs hl
    have hi : u 1 % 9223372036854775808 < 9218868437227405312 := by omega
    refine ⟨trivial, iteP_of_neg h0 (iteP_of_pos h0' (code hi (by omega) a2 a3 a5 a6 .down _ fun D hD hD2 => ?_)), trivial⟩
    rw [h5 D hD hD2, (up_side _ _ (hd0 hi (by omega))).2, ← h6 hi a2 a3 a6]
    simp [hl, hs]
  · intro p1 p2 a2 a3 h h1 h2 h3 a4 a5 a6 h0 h0' hs hl
    have hi : u 1 % 9223372036854775808 < 9218868437227405312 := by omega
    refine ⟨trivial, iteP_of_neg h0 (iteP_of_pos h0' (code hi (by omega) a2 a3 a5 a6 .down _ fun D hD hD2 => ?_)), trivial⟩
    rw [hD, (up_side _ _ (hd0 hi (by omega))).2, ← h6 hi a2 a3 a6]
    simp [hl]
  · intro p1 p2 a2 a3 h h1 h2 h3 a4 a5 a6 h0 h0' hs
    have hi : u 1 % 9223372036854775808 < 9218868437227405312 := by omega
    refine ⟨trivial, iteP_of_neg h0 (iteP_of_pos h0' (code hi (by omega) a2 a3 a5 a6 .down _ fun D hD hD2 => ?_)), trivial⟩
    rw [hD, (up_side _ _ (hd0 hi (by omega))).2]
    have hs' : ¬ 9223372036854775808 ≤ u 1 := by omega
    simp [hs']
  · intro p1 p2 a2 a3 h h1 h2 h3 a4 a5 a6 h0 h0' h0'' hl
    have hi : u 1 % 9223372036854775808 < 9218868437227405312 := by omega
    refine ⟨trivial, iteP_of_neg h0 (iteP_of_neg h0' (iteP_of_neg (by omega) (code hi (by omega) a2 a3 a5 a6 .even _ fun D hD hD2 => ?_))), trivial⟩
    rw [h5 D hD hD2, up_even _ _ (hd0 hi (by omega)), ← h6 hi a2 a3 a6, decide_eq_true (.inl hl)]
    rfl
  · intro p1 p2 a2 a3 h h1 h2 h3 a4 a5 a6 h0 h0' h0'' hl hl' ho
    have hi : u 1 % 9223372036854775808 < 9218868437227405312 := by omega
    have a5' := a5
    rw [a2, a3, hm hi, hq hi, fn2_mO, u64_lt (Nat.lt_of_le_of_lt (Nat.div_le_self _ _) (Nat.lt_trans (mO_lt _ _) (by decide)))] at a5'
    refine ⟨trivial, iteP_of_neg h0 (iteP_of_neg h0' (iteP_of_neg (by omega) (code hi (by omega) a2 a3 a5 a6 .even _ fun D hD hD2 => ?_))), trivial⟩
    rw [h5 D hD hD2, up_even _ _ (hd0 hi (by omega)), ← h6 hi a2 a3 a6, decide_eq_true (.inr ⟨hl', by omega⟩)]
    rfl
  · intro p1 p2 a2 a3 h h1 h2 h3 a4 a5 a6 h0 h0' h0'' hl hl' ho
    have hi : u 1 % 9223372036854775808 < 9218868437227405312 := by omega
    have a5' := a5
    rw [a2, a3, hm hi, hq hi, fn2_mO, u64_lt (Nat.lt_of_le_of_lt (Nat.div_le_self _ _) (Nat.lt_trans (mO_lt _ _) (by decide)))] at a5'
    refine ⟨trivial, iteP_of_neg h0 (iteP_of_neg h0' (iteP_of_neg (by omega) (code hi (by omega) a2 a3 a5 a6 .even _ fun D hD hD2 => ?_))), trivial⟩
    rw [hD, up_even _ _ (hd0 hi (by omega)), ← h6 hi a2 a3 a6, decide_eq_false (by omega)]
    rfl
  · intro p1 p2 a2 a3 h h1 h2 h3 a4 a5 a6 h0 h0' h0'' hl hl'
    have hi : u 1 % 9223372036854775808 < 9218868437227405312 := by omega
    refine ⟨trivial, iteP_of_neg h0 (iteP_of_neg h0' (iteP_of_neg (by omega) (code hi (by omega) a2 a3 a5 a6 .even _ fun D hD hD2 => ?_))), trivial⟩
    rw [hD, up_even _ _ (hd0 hi (by omega)), ← h6 hi a2 a3 a6, decide_eq_false (by omega)]
    rfl
  · intro p1 p2 a2 a3 h h1 h2 h3 a4 a5 a6 h0 h0' h0''
    have hi : u 1 % 9223372036854775808 < 9218868437227405312 := by omega
    refine ⟨trivial, iteP_of_neg h0 (iteP_of_neg h0' (iteP_of_pos (by omega) (code hi (by omega) a2 a3 a5 a6 .zero _ fun D hD hD2 => ?_))), trivial⟩
    rw [hD]
    rfl
theorem can_bd {V : Int} (h : V = -1 ∨ (0 ≤ V ∧ V ≤ 18446744073709551615)) : 0 ≤ iteP (V = -1) 9221120237041090560 V ∧ iteP (V = -1) 9221120237041090560 V ≤ 18446744073709551615 := iteP_in (fun _ => by omega) (fun _ => by omega)
theorem fwhole_in (way : Ieee.Toward) {x : Int} (hx : 0 ≤ x ∧ x ≤ 18446744073709551615) : fwholeI way x = -1 ∨ (0 ≤ fwholeI way x ∧ fwholeI way x ≤ 18446744073709551615) := by
  rcases Int.lt_or_le 9218868437227405312 (x % 9223372036854775808) with h | h
  · exact .inl (fwhole_nan (x := x) hx (by rw [mgD hx]; exact h))
  · obtain ⟨h1, h2, _⟩ := fwhole_word (way := way) (x := x) hx (by rw [mgD hx]; exact h)
    rw [h1, sg_iteP]
    exact .inr (sum_bd (by omega))
theorem whole_bd (u : Nat → Int) (hk : KindOk u 0 wholeD.sp.ks) (hp : pcOk ⟨u, fnG⟩ wholeD.sp.pre) : wholeD.sp.bds.ok ⟨u, fnG⟩ := by
  have hx : 0 ≤ u 1 ∧ u 1 ≤ 18446744073709551615 := of_kind hk.2.1
  refine bd_of ?_
  simp only [wholeE, canU, un, nan64', v, bi, den_iteP, den_addP, E.prop]
  simp only [E.prop, E.den, Un.den]
  exact iteP_in (fun _ => can_bd (fwhole_in _ hx)) fun _ => iteP_in (fun _ => can_bd (fwhole_in _ hx)) fun _ => iteP_in (fun _ => can_bd (fwhole_in _ hx)) fun _ => can_bd (fwhole_in _ hx)
end Go.Proofs.Ytnodelimomljbaa.PlainRefD

/- What the reference's operations of two doubles come to. No condition. -/
namespace Go.Sx.Ref
set_option linter.unusedVariables false
open Go Go.Sx Go.Sx.Flt Ieee
theorem iteP_case {p : Prop} {V a b : Int} (h1 : p → V = a) (h2 : ¬ p → V = b) : V = iteP p a b := by
  by_cases g : p
  · rw [iteP_pos g]; exact h1 g
  · rw [iteP_neg g]; exact h2 g
theorem iteP_casel {p : Prop} {V a b : Int} (h1 : p → a = V) (h2 : ¬ p → b = V) : iteP p a b = V := (iteP_case (fun h => (h1 h).symm) (fun h => (h2 h).symm)).symm
theorem den_bitsP (ρ : Env) (op : BinOp) (k : IntKind) (a b : E) : (E.bin (.bits op k) a b).den ρ = bitI op k (a.den ρ) (b.den ρ) := rfl
theorem den_mulP (ρ : Env) (a b : E) : (E.bin .mul a b).den ρ = a.den ρ * b.den ρ := rfl
theorem wID (s : Bool) (r : Nat) : wI .f64 s r = (if s then 9223372036854775808 else 0) + r := wI_eq _ _ _
theorem iR : FloatKind.f64.format.infRung = 9218868437227405312 := by decide
theorem sOD (x : Int) : (sO .f64 x = true ↔ 9223372036854775808 ≤ x) := by unfold sO; rw [decide_eq_true_iff]; exact Iff.rfl
structure Word (x m p : Int) : Prop where
  r : 0 ≤ x ∧ x ≤ 18446744073709551615
  m : x % 9223372036854775808 < 9218868437227405312 → m = (mO .f64 x : Int)
  p : x % 9223372036854775808 < 9218868437227405312 → p = pO .f64 x
theorem word_of {x m p : Int} (hx : 0 ≤ x ∧ x ≤ 18446744073709551615) (a : m = iteP (x % 9223372036854775808 < 4503599627370496) (x % 9223372036854775808) (iteP (x % 9223372036854775808 < 9218868437227405312) (4503599627370496 + x % 9223372036854775808 % 4503599627370496) (x % 9223372036854775808 - 9218868437227405312)))
    (b : p = iteP (x % 9223372036854775808 < 4503599627370496) (-1074) (iteP (x % 9223372036854775808 < 9218868437227405312) (-1075 + x % 9223372036854775808 / 4503599627370496) 0)) : Word x m p :=
  ⟨hx, fun h => a.trans (magD hx h), fun h => b.trans (plcD hx h)⟩
theorem far_nanD {op : BinOp} {x y : Int} (hx : 0 ≤ x ∧ x ≤ 18446744073709551615) (hy : 0 ≤ y ∧ y ≤ 18446744073709551615) (h : 9218868437227405312 < x % 9223372036854775808 ∨ 9218868437227405312 < y % 9223372036854775808) : farI op .f64 x y = -1 :=
  far_nan (k := .f64) hx hy (by rw [mgD hx, mgD hy]; exact h)
theorem inf_word {s : Bool} {q : Prop} (h : s = true ↔ q) : wI .f64 s FloatKind.f64.format.infRung = iteP q 18442240474082181120 9218868437227405312 := by
  rw [wID, iR]
  cases s
  · rw [iteP_neg (fun g => by have := h.2 g; contradiction)]; rfl
  · rw [iteP_pos (h.1 rfl)]; rfl
theorem sgn_word {s : Bool} {q : Prop} (h : s = true ↔ q) (r : Nat) : wI .f64 s r = iteP q 9223372036854775808 0 + r := by
  rw [wID]
  cases s
  · rw [iteP_neg (fun g => by have := h.2 g; contradiction)]; rfl
  · rw [iteP_pos (h.1 rfl)]; rfl
theorem add_code {x y m1 p1 m2 p2 c1 c2 N : Int} {q : Prop} (b : Bool) (X : Word x m1 p1) (Y : Word y m2 p2) (h1 : c1 = iteP (9223372036854775808 ≤ x) 1 0) (h2 : c2 = iteP q 1 0) (hq : (sO .f64 y ^^ b) = true ↔ q) :
    iteP ((9218868437227405312 < x % 9223372036854775808 ∨ 9218868437227405312 < y % 9223372036854775808) ∨ (x % 9223372036854775808 = 9218868437227405312 ∧ y % 9223372036854775808 = 9218868437227405312) ∧ ¬ c1 = c2) N
      (iteP (x % 9223372036854775808 = 9218868437227405312) (iteP (9223372036854775808 ≤ x) 18442240474082181120 9218868437227405312)
        (iteP (y % 9223372036854775808 = 9218868437227405312) (iteP q 18442240474082181120 9218868437227405312) (fnG 6 (m1 * 4096 + (p1 + 2048)) (m2 * 4096 + (p2 + 2048)) (c1 * 2 + c2)))) =
      iteP (farI (if b then .sub else .add) .f64 x y = -1) N (farI (if b then .sub else .add) .f64 x y) := by
  by_cases hn : 9218868437227405312 < x % 9223372036854775808 ∨ 9218868437227405312 < y % 9223372036854775808
  · rw [iteP_pos (.inl hn), iteP_pos (far_nanD X.r Y.r hn)]
  · have nx : mg .f64 x ≤ kI .f64 := by rw [mgD X.r, kI64]; omega
    have ny : mg .f64 y ≤ kI .f64 := by rw [mgD Y.r, kI64]; omega
    have F := far_sum (k := .f64) b X.r Y.r nx ny
    rw [mgD X.r, mgD Y.r, kI64] at F
    have s1 := sOD x
    have e1 : (c1 == 1) = sO .f64 x := by
      rw [h1]
      by_cases h : 9223372036854775808 ≤ x
      · rw [iteP_pos h, s1.2 h]; rfl
      · rw [iteP_neg h, Bool.eq_false_iff.2 (fun g => h (s1.1 g))]; rfl
    have e2 : (c2 == 1) = (sO .f64 y ^^ b) := by
      rw [h2]
      by_cases h : q
      · rw [iteP_pos h, hq.2 h]; rfl
      · rw [iteP_neg h, Bool.eq_false_iff.2 (fun g => h (hq.1 g))]; rfl
    have c01 : (c1 = 0 ∨ c1 = 1) ∧ (c2 = 0 ∨ c2 = 1) := by
      rw [h1, h2]
      unfold iteP
      constructor <;> split <;> simp
    have ec : (¬ c1 = c2) ↔ sO .f64 x ≠ (sO .f64 y ^^ b) := by
      rw [← e1, ← e2]
      rcases c01.1 with h | h <;> rcases c01.2 with g | g <;> rw [h, g] <;> decide
    rw [F]
    by_cases ix : x % 9223372036854775808 = 9218868437227405312
    · rw [if_pos ix]
      by_cases iy : y % 9223372036854775808 = 9218868437227405312 ∧ sO .f64 x ≠ (sO .f64 y ^^ b)
      · rw [if_pos iy, iteP_pos (.inr ⟨⟨ix, iy.1⟩, ec.2 iy.2⟩), iteP_pos rfl]
      · rw [if_neg iy, iteP_neg (fun h => h.elim hn fun g => iy ⟨g.1.2, ec.1 g.2⟩), iteP_pos ix, inf_word s1]
        refine canon ?_
        exact (iteP_in (l := 0) (h := 18446744073709551615) (fun _ => by omega) (fun _ => by omega)).1
    · rw [if_neg ix, iteP_neg (fun h => h.elim hn fun g => ix g.1.1), iteP_neg ix]
      by_cases iy : y % 9223372036854775808 = 9218868437227405312
      · rw [if_pos iy, iteP_pos iy, inf_word hq]
        refine canon ?_
        exact (iteP_in (l := 0) (h := 18446744073709551615) (fun _ => by omega) (fun _ => by omega)).1
      · rw [if_neg iy, iteP_neg iy]
        have px := pO_in X.r (show x % 9223372036854775808 < 9218868437227405312 by omega)
        have py := pO_in Y.r (show y % 9223372036854775808 < 9218868437227405312 by omega)
        rw [X.m (by omega), X.p (by omega), Y.m (by omega), Y.p (by omega), fn6 c01.1 c01.2 (mO_in x).1 (mO_in y).1 (by omega) (by omega), e1, e2, Int.toNat_natCast, Int.toNat_natCast]
        exact canon (sumC_in _ _ _ _ _ _).1
theorem xor_q (x y : Int) : ((sO .f64 x ^^ sO .f64 y) = true ↔ ¬ iteP (9223372036854775808 ≤ x) 1 0 = iteP (9223372036854775808 ≤ y) 1 0) := by
  have s1 := sOD x
  have s2 := sOD y
  by_cases h : 9223372036854775808 ≤ x <;> by_cases g : 9223372036854775808 ≤ y <;> simp [h, g, iteP_pos, iteP_neg, s1.2, s2.2, Bool.eq_false_iff.2, s1, s2]
theorem mul_code {x y m1 p1 m2 p2 N : Int} (X : Word x m1 p1) (Y : Word y m2 p2) :
    iteP ((9218868437227405312 < x % 9223372036854775808 ∨ 9218868437227405312 < y % 9223372036854775808) ∨ (x % 9223372036854775808 = 9218868437227405312 ∧ ¬ y % 9223372036854775808 = 9218868437227405312 ∧ m2 = 0) ∨ (y % 9223372036854775808 = 9218868437227405312 ∧ ¬ x % 9223372036854775808 = 9218868437227405312 ∧ m1 = 0)) N
      (iteP (x % 9223372036854775808 = 9218868437227405312 ∨ y % 9223372036854775808 = 9218868437227405312) (iteP (¬ iteP (9223372036854775808 ≤ x) 1 0 = iteP (9223372036854775808 ≤ y) 1 0) 18442240474082181120 9218868437227405312)
        (iteP (¬ iteP (9223372036854775808 ≤ x) 1 0 = iteP (9223372036854775808 ≤ y) 1 0) 9223372036854775808 0 + fnG 4 (m1 * m2) (p1 + p2) 0)) =
      iteP (farI .mul .f64 x y = -1) N (farI .mul .f64 x y) := by
  by_cases hn : 9218868437227405312 < x % 9223372036854775808 ∨ 9218868437227405312 < y % 9223372036854775808
  · rw [iteP_pos (.inl hn), iteP_pos (far_nanD X.r Y.r hn)]
  · have nx : mg .f64 x ≤ kI .f64 := by rw [mgD X.r, kI64]; omega
    have ny : mg .f64 y ≤ kI .f64 := by rw [mgD Y.r, kI64]; omega
    have F := far_mul (k := .f64) X.r Y.r nx ny
    rw [mgD X.r, mgD Y.r, kI64] at F
    have hq := xor_q x y
    have zx : x % 9223372036854775808 < 9218868437227405312 → (m1 = 0 ↔ x % 9223372036854775808 = 0) := fun h => by rw [X.m h]; exact mO_null X.r h
    have zy : y % 9223372036854775808 < 9218868437227405312 → (m2 = 0 ↔ y % 9223372036854775808 = 0) := fun h => by rw [Y.m h]; exact mO_null Y.r h
    have ec : ((9218868437227405312 < x % 9223372036854775808 ∨ 9218868437227405312 < y % 9223372036854775808) ∨ (x % 9223372036854775808 = 9218868437227405312 ∧ ¬ y % 9223372036854775808 = 9218868437227405312 ∧ m2 = 0) ∨ (y % 9223372036854775808 = 9218868437227405312 ∧ ¬ x % 9223372036854775808 = 9218868437227405312 ∧ m1 = 0)) ↔
        ((x % 9223372036854775808 = 9218868437227405312 ∧ y % 9223372036854775808 = 0) ∨ (y % 9223372036854775808 = 9218868437227405312 ∧ x % 9223372036854775808 = 0)) := by omega
    rw [F]
    by_cases c : (x % 9223372036854775808 = 9218868437227405312 ∧ y % 9223372036854775808 = 0) ∨ (y % 9223372036854775808 = 9218868437227405312 ∧ x % 9223372036854775808 = 0)
    · rw [if_pos c, iteP_pos (ec.2 c), iteP_pos rfl]
    · rw [if_neg c, iteP_neg (fun h => c (ec.1 h))]
      by_cases d : x % 9223372036854775808 = 9218868437227405312 ∨ y % 9223372036854775808 = 9218868437227405312
      · rw [if_pos d, iteP_pos d, inf_word hq]
        refine canon ?_
        exact (iteP_in (l := 0) (h := 18446744073709551615) (fun _ => by omega) (fun _ => by omega)).1
      · rw [if_neg d, iteP_neg d, sgn_word hq, X.m (by omega), Y.m (by omega), X.p (by omega), Y.p (by omega), ← Int.natCast_mul, fn4_word]
        refine canon ?_
        have := iteP_in (p := ¬ iteP (9223372036854775808 ≤ x) 1 0 = iteP (9223372036854775808 ≤ y) 1 0) (a := 9223372036854775808) (b := 0) (l := 0) (h := 18446744073709551615) (fun _ => by omega) (fun _ => by omega)
        omega
theorem fn8_code {X i Y j : Int} (hX : 0 ≤ X) (hY : 0 ≤ Y) (hi : -1074 ≤ i ∧ i ≤ 971) (hj : -1074 ≤ j ∧ j ≤ 971) : fnG 8 (X * 4096 + (i + 2048)) (Y * 4096 + (j + 2048)) 0 = (quoC Ieee.double X.toNat i Y.toNat j : Nat) := by
  simp only [fnG]
  rw [(pk_of hX (e := i) (by omega)).1, (pk_of hX (e := i) (by omega)).2, (pk_of hY (e := j) (by omega)).1, (pk_of hY (e := j) (by omega)).2]
theorem fn10_code {X i : Int} (hX : 0 ≤ X) (hi : -1074 ≤ i ∧ i ≤ 971) : fnG 10 (X * 4096 + (i + 2048)) 0 0 = (rootC Ieee.double X.toNat i : Nat) := by
  simp only [fnG]
  rw [(pk_of hX (e := i) (by omega)).1, (pk_of hX (e := i) (by omega)).2]
theorem quo_code {x y m1 p1 m2 p2 N : Int} (X : Word x m1 p1) (Y : Word y m2 p2) :
    iteP ((9218868437227405312 < x % 9223372036854775808 ∨ 9218868437227405312 < y % 9223372036854775808) ∨ (x % 9223372036854775808 = 9218868437227405312 ∧ y % 9223372036854775808 = 9218868437227405312) ∨ (¬ x % 9223372036854775808 = 9218868437227405312 ∧ ¬ y % 9223372036854775808 = 9218868437227405312) ∧ m1 = 0 ∧ m2 = 0) N
      (iteP (x % 9223372036854775808 = 9218868437227405312 ∨ ¬ y % 9223372036854775808 = 9218868437227405312 ∧ m2 = 0) (iteP (¬ iteP (9223372036854775808 ≤ x) 1 0 = iteP (9223372036854775808 ≤ y) 1 0) 18442240474082181120 9218868437227405312)
        (iteP (y % 9223372036854775808 = 9218868437227405312 ∨ m1 = 0) (iteP (¬ iteP (9223372036854775808 ≤ x) 1 0 = iteP (9223372036854775808 ≤ y) 1 0) 9223372036854775808 0)
          (iteP (¬ iteP (9223372036854775808 ≤ x) 1 0 = iteP (9223372036854775808 ≤ y) 1 0) 9223372036854775808 0 + fnG 8 (m1 * 4096 + (p1 + 2048)) (m2 * 4096 + (p2 + 2048)) 0))) =
      iteP (farI .quo .f64 x y = -1) N (farI .quo .f64 x y) := by
  by_cases hn : 9218868437227405312 < x % 9223372036854775808 ∨ 9218868437227405312 < y % 9223372036854775808
  · rw [iteP_pos (.inl hn), iteP_pos (far_nanD X.r Y.r hn)]
  · have nx : mg .f64 x ≤ kI .f64 := by rw [mgD X.r, kI64]; omega
    have ny : mg .f64 y ≤ kI .f64 := by rw [mgD Y.r, kI64]; omega
    have F := far_quo (k := .f64) X.r Y.r nx ny
    rw [mgD X.r, mgD Y.r, kI64] at F
    have hq := xor_q x y
    have zx : x % 9223372036854775808 < 9218868437227405312 → (m1 = 0 ↔ x % 9223372036854775808 = 0) := fun h => by rw [X.m h]; exact mO_null X.r h
    have zy : y % 9223372036854775808 < 9218868437227405312 → (m2 = 0 ↔ y % 9223372036854775808 = 0) := fun h => by rw [Y.m h]; exact mO_null Y.r h
    have sin : 0 ≤ iteP (¬ iteP (9223372036854775808 ≤ x) 1 0 = iteP (9223372036854775808 ≤ y) 1 0) 9223372036854775808 0 ∧ iteP (¬ iteP (9223372036854775808 ≤ x) 1 0 = iteP (9223372036854775808 ≤ y) 1 0) 9223372036854775808 0 ≤ 18446744073709551615 := iteP_in (fun _ => by omega) (fun _ => by omega)
    have e1 : ((9218868437227405312 < x % 9223372036854775808 ∨ 9218868437227405312 < y % 9223372036854775808) ∨ (x % 9223372036854775808 = 9218868437227405312 ∧ y % 9223372036854775808 = 9218868437227405312) ∨ (¬ x % 9223372036854775808 = 9218868437227405312 ∧ ¬ y % 9223372036854775808 = 9218868437227405312) ∧ m1 = 0 ∧ m2 = 0) ↔
        ((x % 9223372036854775808 = 9218868437227405312 ∧ y % 9223372036854775808 = 9218868437227405312) ∨ (x % 9223372036854775808 = 0 ∧ y % 9223372036854775808 = 0)) := by omega
    have e2 : (x % 9223372036854775808 = 9218868437227405312 ∨ ¬ y % 9223372036854775808 = 9218868437227405312 ∧ m2 = 0) ↔ (x % 9223372036854775808 = 9218868437227405312 ∨ y % 9223372036854775808 = 0) := by omega
    rw [F]
    by_cases c : (x % 9223372036854775808 = 9218868437227405312 ∧ y % 9223372036854775808 = 9218868437227405312) ∨ (x % 9223372036854775808 = 0 ∧ y % 9223372036854775808 = 0)
    · rw [if_pos c, iteP_pos (e1.2 c), iteP_pos rfl]
    · rw [if_neg c, iteP_neg (fun h => c (e1.1 h))]
      by_cases d : x % 9223372036854775808 = 9218868437227405312 ∨ y % 9223372036854775808 = 0
      · rw [if_pos d, iteP_pos (e2.2 d), inf_word hq]
        refine canon ?_
        exact (iteP_in (l := 0) (h := 18446744073709551615) (fun _ => by omega) (fun _ => by omega)).1
      · rw [if_neg d, iteP_neg (fun h => d (e2.1 h))]
        by_cases g : y % 9223372036854775808 = 9218868437227405312 ∨ x % 9223372036854775808 = 0
        · rw [if_pos g, iteP_pos (show y % 9223372036854775808 = 9218868437227405312 ∨ m1 = 0 by omega), sgn_word hq]
          have : iteP (¬ iteP (9223372036854775808 ≤ x) 1 0 = iteP (9223372036854775808 ≤ y) 1 0) 9223372036854775808 0 + ((0 : Nat) : Int) = iteP (¬ iteP (9223372036854775808 ≤ x) 1 0 = iteP (9223372036854775808 ≤ y) 1 0) 9223372036854775808 0 := Int.add_zero _
          rw [this]
          exact canon sin.1
        · have px := pO_in X.r (show x % 9223372036854775808 < 9218868437227405312 by omega)
          have py := pO_in Y.r (show y % 9223372036854775808 < 9218868437227405312 by omega)
          rw [if_neg g, iteP_neg (show ¬ (y % 9223372036854775808 = 9218868437227405312 ∨ m1 = 0) by omega), sgn_word hq, X.m (by omega), Y.m (by omega), X.p (by omega), Y.p (by omega), fn8_code (mO_in x).1 (mO_in y).1 px py, Int.toNat_natCast, Int.toNat_natCast]
          refine canon ?_
          have h8 : (0 : Int) ≤ (quoC Ieee.double (mO .f64 x) (pO .f64 x) (mO .f64 y) (pO .f64 y) : Nat) := Int.natCast_nonneg _
          omega
/-! ### the order, the lesser and the greater -/
theorem bit_same (x : Int) (hx : 0 ≤ x ∧ x ≤ 18446744073709551615) : bitI .or .u64 x x = x ∧ bitI .and .u64 x x = x := by
  obtain ⟨n, rfl⟩ := Int.eq_ofNat_of_zero_le hx.1
  have e : (BitVec.ofInt IntKind.u64.bits (n : Int)).toNat = n := by
    show (BitVec.ofInt 64 (n : Int)).toNat = n
    rw [ofInt_nat]; omega
  unfold bitI
  simp only [BitVec.or_self, BitVec.and_self, e, u64_wr]
  omega
theorem ky_iteP (x : Int) : ky .f64 x = iteP (9223372036854775808 ≤ x) (9223372036854775808 - x) x := by
  unfold ky
  rw [kM64]
  by_cases h : 9223372036854775808 ≤ x
  · rw [if_pos h, iteP_pos h]
  · rw [if_neg h, iteP_neg h]
theorem ford_facts {x y : Int} (hx : 0 ≤ x ∧ x ≤ 18446744073709551615) (hy : 0 ≤ y ∧ y ≤ 18446744073709551615) :
    ((9218868437227405312 < x % 9223372036854775808 ∨ 9218868437227405312 < y % 9223372036854775808) → fordI .f64 x y = 3) ∧
    (x % 9223372036854775808 ≤ 9218868437227405312 → y % 9223372036854775808 ≤ 9218868437227405312 → (iteP (9223372036854775808 ≤ x) (9223372036854775808 - x) x = iteP (9223372036854775808 ≤ y) (9223372036854775808 - y) y → fordI .f64 x y = 0) ∧
      (iteP (9223372036854775808 ≤ x) (9223372036854775808 - x) x < iteP (9223372036854775808 ≤ y) (9223372036854775808 - y) y → fordI .f64 x y = 1) ∧ (iteP (9223372036854775808 ≤ y) (9223372036854775808 - y) y < iteP (9223372036854775808 ≤ x) (9223372036854775808 - x) x → fordI .f64 x y = 2)) := by
  have h := ford_eq (k := .f64) (x := x) (y := y) hx hy
  rw [mgD hx, mgD hy, kI64, ky_iteP, ky_iteP] at h
  generalize iteP (9223372036854775808 ≤ x) (9223372036854775808 - x) x = a at h ⊢
  generalize iteP (9223372036854775808 ≤ y) (9223372036854775808 - y) y = b at h ⊢
  refine ⟨fun g => by rw [h, if_pos g], fun g1 g2 => ⟨fun g => ?_, fun g => ?_, fun g => ?_⟩⟩
  · rw [h, if_neg (by omega), if_pos g]
  · rw [h, if_neg (by omega), if_neg (by omega), if_pos g]
  · rw [h, if_neg (by omega), if_neg (by omega), if_neg (by omega)]
theorem ford_self {x : Int} (hx : 0 ≤ x ∧ x ≤ 18446744073709551615) : (fordI .f64 x x = 0 ↔ x % 9223372036854775808 ≤ 9218868437227405312) := by
  have h := ford_facts hx hx
  constructor
  · intro g
    rcases Int.lt_or_le 9218868437227405312 (x % 9223372036854775808) with k | k
    · have := h.1 (.inl k); omega
    · exact k
  · intro g; exact (h.2 g g).1 rfl
theorem pick_facts {x y : Int} (hx : 0 ≤ x ∧ x ≤ 18446744073709551615) (hy : 0 ≤ y ∧ y ≤ 18446744073709551615) (nx : x % 9223372036854775808 ≤ 9218868437227405312) (ny : y % 9223372036854775808 ≤ 9218868437227405312) :
    (iteP (9223372036854775808 ≤ x) (9223372036854775808 - x) x = iteP (9223372036854775808 ≤ y) (9223372036854775808 - y) y → fpickI true x y = bitI .or .u64 x y ∧ fpickI false x y = bitI .and .u64 x y) ∧
      (iteP (9223372036854775808 ≤ x) (9223372036854775808 - x) x < iteP (9223372036854775808 ≤ y) (9223372036854775808 - y) y → fpickI true x y = x ∧ fpickI false x y = y) ∧ (iteP (9223372036854775808 ≤ y) (9223372036854775808 - y) y < iteP (9223372036854775808 ≤ x) (9223372036854775808 - x) x → fpickI true x y = y ∧ fpickI false x y = x) := by
  have h1 := fpick_min (x := x) (y := y) hx hy (by rw [mgD hx]; exact nx) (by rw [mgD hy]; exact ny)
  have h2 := fpick_max (x := x) (y := y) hx hy (by rw [mgD hx]; exact nx) (by rw [mgD hy]; exact ny)
  have s1 := bit_same x hx
  have o1 : bitI .or .u64 0 9223372036854775808 = 9223372036854775808 := by decide
  have o2 : bitI .or .u64 9223372036854775808 0 = 9223372036854775808 := by decide
  have a1 : bitI .and .u64 0 9223372036854775808 = 0 := by decide
  have a2 : bitI .and .u64 9223372036854775808 0 = 0 := by decide
  unfold kz at h1 h2
  rw [kM64] at h1 h2
  by_cases c : 9223372036854775808 ≤ x <;> by_cases d : 9223372036854775808 ≤ y
  · rw [iteP_pos c, iteP_pos d]
    rw [if_pos c, if_pos d] at h1 h2
    refine ⟨fun g => ?_, fun g => ?_, fun g => ?_⟩
    · have e : y = x := by omega
      subst e
      rw [h1, h2, if_neg (by omega), s1.1, s1.2]; exact ⟨rfl, rfl⟩
    · rw [h1, h2, if_pos (by omega), if_neg (by omega)]; exact ⟨rfl, rfl⟩
    · rw [h1, h2, if_neg (by omega), if_pos (by omega)]; exact ⟨rfl, rfl⟩
  · rw [iteP_pos c, iteP_neg d]
    rw [if_pos c, if_neg d] at h1 h2
    refine ⟨fun g => ?_, fun g => ?_, fun g => ?_⟩
    · have e : y = 0 := by omega
      have e' : x = 9223372036854775808 := by omega
      subst e e'
      rw [h1, h2, o2, a2]; exact ⟨rfl, rfl⟩
    · rw [h1, h2, if_pos (by omega), if_neg (by omega)]; exact ⟨rfl, rfl⟩
    · omega
  · rw [iteP_neg c, iteP_pos d]
    rw [if_neg c, if_pos d] at h1 h2
    refine ⟨fun g => ?_, fun g => ?_, fun g => ?_⟩
    · have e : x = 0 := by omega
      have e' : y = 9223372036854775808 := by omega
      subst e e'
      rw [h1, h2, o1, a1]; exact ⟨rfl, rfl⟩
    · omega
    · rw [h1, h2, if_neg (by omega), if_pos (by omega)]; exact ⟨rfl, rfl⟩
  · rw [iteP_neg c, iteP_neg d]
    rw [if_neg c, if_neg d] at h1 h2
    refine ⟨fun g => ?_, fun g => ?_, fun g => ?_⟩
    · have e : y = x := by omega
      subst e
      rw [h1, h2, if_neg (by omega), s1.1, s1.2]; exact ⟨rfl, rfl⟩
    · rw [h1, h2, if_pos (by omega), if_neg (by omega)]; exact ⟨rfl, rfl⟩
    · rw [h1, h2, if_neg (by omega), if_pos (by omega)]; exact ⟨rfl, rfl⟩
theorem pick_in {x y : Int} (b : Bool) (hx : 0 ≤ x ∧ x ≤ 18446744073709551615) (hy : 0 ≤ y ∧ y ≤ 18446744073709551615) (nx : x % 9223372036854775808 ≤ 9218868437227405312) (ny : y % 9223372036854775808 ≤ 9218868437227405312) : 0 ≤ fpickI b x y ∧ fpickI b x y ≤ 18446744073709551615 := by
  have h1 := fpick_min (x := x) (y := y) hx hy (by rw [mgD hx]; exact nx) (by rw [mgD hy]; exact ny)
  have h2 := fpick_max (x := x) (y := y) hx hy (by rw [mgD hx]; exact nx) (by rw [mgD hy]; exact ny)
  cases b
  · rw [h2]; split <;> assumption
  · rw [h1]; split <;> assumption
theorem root_code {x m p N : Int} (X : Word x m p) :
    iteP (9218868437227405312 < x % 9223372036854775808 ∨ 9223372036854775808 ≤ x ∧ (x % 9223372036854775808 = 9218868437227405312 ∨ ¬ m = 0)) N
      (iteP (x % 9223372036854775808 = 9218868437227405312) 9218868437227405312 (iteP (m = 0) (iteP (9223372036854775808 ≤ x) 9223372036854775808 0) (fnG 10 (m * 4096 + (p + 2048)) 0 0))) =
      iteP (fsqrtI x = -1) N (fsqrtI x) := by
  by_cases hn : 9218868437227405312 < x % 9223372036854775808
  · rw [iteP_pos (.inl hn), iteP_pos (fsqrt_nan (x := x) X.r (by rw [mgD X.r]; exact hn))]
  · have F := far_root (x := x) X.r (by rw [mgD X.r, kI64]; omega)
    rw [mgD X.r, kI64, kM64] at F
    have zx : x % 9223372036854775808 < 9218868437227405312 → (m = 0 ↔ x % 9223372036854775808 = 0) := fun h => by rw [X.m h]; exact mO_null X.r h
    rw [F]
    by_cases c : 9223372036854775808 ≤ x ∧ x % 9223372036854775808 ≠ 0
    · rw [if_pos c, iteP_pos rfl]
      exact iteP_casel (fun _ => rfl) (fun h => by omega)
    · rw [if_neg c, iteP_neg (show ¬ (9218868437227405312 < x % 9223372036854775808 ∨ 9223372036854775808 ≤ x ∧ (x % 9223372036854775808 = 9218868437227405312 ∨ ¬ m = 0)) by omega)]
      by_cases d : x % 9223372036854775808 = 9218868437227405312
      · rw [if_pos d, iteP_pos d]; exact canon (by omega)
      · rw [if_neg d, iteP_neg d]
        by_cases z : x % 9223372036854775808 = 0
        · rw [if_pos z, iteP_pos ((zx (by omega)).2 z), sgn_word (sOD x)]
          have e : iteP (9223372036854775808 ≤ x) 9223372036854775808 0 + ((0 : Nat) : Int) = iteP (9223372036854775808 ≤ x) 9223372036854775808 0 := Int.add_zero _
          rw [e]
          exact canon (iteP_in (l := 0) (h := 18446744073709551615) (fun _ => by omega) (fun _ => by omega)).1
        · have px := pO_in X.r (show x % 9223372036854775808 < 9218868437227405312 by omega)
          rw [if_neg z, iteP_neg (fun h => z ((zx (by omega)).1 h)), X.m (by omega), X.p (by omega), fn10_code (mO_in x).1 px, Int.toNat_natCast]
          exact canon (Int.natCast_nonneg _)
end Go.Sx.Ref

/- The reference's comparisons of doubles: six kinds. No condition. -/
namespace Go.Proofs.Ytnodelimomljbaa.PlainRefF
open Go Go.Sx Go.Sx.Flt Go.Sx.Ref Go.Proofs.Ytnodelimomljbaa.RunRefF Go.Proofs.Ytnodelimomljbaa.PlainRefA Go.Proofs.Ytnodelimomljbaa.PlainRefB Go.Proofs.Ytnodelimomljbaa.PlainRefC
set_option linter.unusedSimpArgs false
set_option linter.unusedVariables false
set_option maxHeartbeats 1000000 in
theorem plain0 (u : Nat → Int) (hk : KindOk u 0 (compDK 0).sp.ks) (hp : pcOk ⟨u, fnG⟩ (compDK 0).sp.pre) : Keeps ⟨u, fnG⟩ (compDK 0).sp.res compDK0R := by
  have hx : 0 ≤ u 0 ∧ u 0 ≤ 18446744073709551615 := of_kind hk.1
  have hy : 0 ≤ u 1 ∧ u 1 ≤ 18446744073709551615 := of_kind hk.2.1
  have F := ford_facts hx hy
  simp only [magE, plcE, rE, B52, I64, M63, compDK, compK, compDK0R, tr, oU0, no, un, Keeps, chain, unOne, List.length, Nat.beq, SameL, v, bi, den_iteP, E.prop]
  simp only [E.den, Bi.den, Un.den]
  generalize fordI .f64 (u 0) (u 1) = D at F ⊢
  generalize iteP (9223372036854775808 ≤ u 0) (9223372036854775808 - u 0) (u 0) = a at F ⊢
  generalize iteP (9223372036854775808 ≤ u 1) (9223372036854775808 - u 1) (u 1) = b at F ⊢
  repeat' apply And.intro
  all_goals first | trivial | (intros; exact ⟨trivial, iteP_case (fun _ => by omega) (fun _ => by omega), trivial⟩)
set_option maxHeartbeats 1000000 in
theorem plain1 (u : Nat → Int) (hk : KindOk u 0 (compDK 1).sp.ks) (hp : pcOk ⟨u, fnG⟩ (compDK 1).sp.pre) : Keeps ⟨u, fnG⟩ (compDK 1).sp.res compDK1R := by
  have hx : 0 ≤ u 0 ∧ u 0 ≤ 18446744073709551615 := of_kind hk.1
  have hy : 0 ≤ u 1 ∧ u 1 ≤ 18446744073709551615 := of_kind hk.2.1
  have F := ford_facts hx hy
  simp only [magE, plcE, rE, B52, I64, M63, compDK, compK, compDK1R, tr, oU0, no, un, Keeps, chain, unOne, List.length, Nat.beq, SameL, v, bi, den_iteP, E.prop]
  simp only [E.den, Bi.den, Un.den]
  generalize fordI .f64 (u 0) (u 1) = D at F ⊢
  generalize iteP (9223372036854775808 ≤ u 0) (9223372036854775808 - u 0) (u 0) = a at F ⊢
  generalize iteP (9223372036854775808 ≤ u 1) (9223372036854775808 - u 1) (u 1) = b at F ⊢
  repeat' apply And.intro
  all_goals first | trivial | (intros; exact ⟨trivial, iteP_case (fun _ => by omega) (fun _ => by omega), trivial⟩)
set_option maxHeartbeats 1000000 in
theorem plain2 (u : Nat → Int) (hk : KindOk u 0 (compDK 2).sp.ks) (hp : pcOk ⟨u, fnG⟩ (compDK 2).sp.pre) : Keeps ⟨u, fnG⟩ (compDK 2).sp.res compDK2R := by
  have hx : 0 ≤ u 0 ∧ u 0 ≤ 18446744073709551615 := of_kind hk.1
  have hy : 0 ≤ u 1 ∧ u 1 ≤ 18446744073709551615 := of_kind hk.2.1
  have F := ford_facts hx hy
  simp only [magE, plcE, rE, B52, I64, M63, compDK, compK, compDK2R, tr, oU0, no, un, Keeps, chain, unOne, List.length, Nat.beq, SameL, v, bi, den_iteP, E.prop]
  simp only [E.den, Bi.den, Un.den]
  generalize fordI .f64 (u 0) (u 1) = D at F ⊢
  generalize iteP (9223372036854775808 ≤ u 0) (9223372036854775808 - u 0) (u 0) = a at F ⊢
  generalize iteP (9223372036854775808 ≤ u 1) (9223372036854775808 - u 1) (u 1) = b at F ⊢
  repeat' apply And.intro
  all_goals first | trivial | (intros; exact ⟨trivial, iteP_case (fun _ => by omega) (fun _ => by omega), trivial⟩)
set_option maxHeartbeats 1000000 in
theorem plain3 (u : Nat → Int) (hk : KindOk u 0 (compDK 3).sp.ks) (hp : pcOk ⟨u, fnG⟩ (compDK 3).sp.pre) : Keeps ⟨u, fnG⟩ (compDK 3).sp.res compDK3R := by
  have hx : 0 ≤ u 0 ∧ u 0 ≤ 18446744073709551615 := of_kind hk.1
  have hy : 0 ≤ u 1 ∧ u 1 ≤ 18446744073709551615 := of_kind hk.2.1
  have F := ford_facts hx hy
  simp only [magE, plcE, rE, B52, I64, M63, compDK, compK, compDK3R, tr, oU0, no, un, Keeps, chain, unOne, List.length, Nat.beq, SameL, v, bi, den_iteP, E.prop]
  simp only [E.den, Bi.den, Un.den]
  generalize fordI .f64 (u 0) (u 1) = D at F ⊢
  generalize iteP (9223372036854775808 ≤ u 0) (9223372036854775808 - u 0) (u 0) = a at F ⊢
  generalize iteP (9223372036854775808 ≤ u 1) (9223372036854775808 - u 1) (u 1) = b at F ⊢
  repeat' apply And.intro
  all_goals first | trivial | (intros; exact ⟨trivial, iteP_case (fun _ => by omega) (fun _ => by omega), trivial⟩)
set_option maxHeartbeats 1000000 in
theorem plain4 (u : Nat → Int) (hk : KindOk u 0 (compDK 4).sp.ks) (hp : pcOk ⟨u, fnG⟩ (compDK 4).sp.pre) : Keeps ⟨u, fnG⟩ (compDK 4).sp.res compDK4R := by
  have hx : 0 ≤ u 0 ∧ u 0 ≤ 18446744073709551615 := of_kind hk.1
  have hy : 0 ≤ u 1 ∧ u 1 ≤ 18446744073709551615 := of_kind hk.2.1
  have F := ford_facts hx hy
  simp only [magE, plcE, rE, B52, I64, M63, compDK, compK, compDK4R, tr, oU0, no, un, Keeps, chain, unOne, List.length, Nat.beq, SameL, v, bi, den_iteP, E.prop]
  simp only [E.den, Bi.den, Un.den]
  generalize fordI .f64 (u 0) (u 1) = D at F ⊢
  generalize iteP (9223372036854775808 ≤ u 0) (9223372036854775808 - u 0) (u 0) = a at F ⊢
  generalize iteP (9223372036854775808 ≤ u 1) (9223372036854775808 - u 1) (u 1) = b at F ⊢
  repeat' apply And.intro
  all_goals first | trivial | (intros; exact ⟨trivial, iteP_case (fun _ => by omega) (fun _ => by omega), trivial⟩)
set_option maxHeartbeats 1000000 in
theorem plain5 (u : Nat → Int) (hk : KindOk u 0 (compDK 5).sp.ks) (hp : pcOk ⟨u, fnG⟩ (compDK 5).sp.pre) : Keeps ⟨u, fnG⟩ (compDK 5).sp.res compDK5R := by
  have hx : 0 ≤ u 0 ∧ u 0 ≤ 18446744073709551615 := of_kind hk.1
  have hy : 0 ≤ u 1 ∧ u 1 ≤ 18446744073709551615 := of_kind hk.2.1
  have F := ford_facts hx hy
  simp only [magE, plcE, rE, B52, I64, M63, compDK, compK, compDK5R, tr, oU0, no, un, Keeps, chain, unOne, List.length, Nat.beq, SameL, v, bi, den_iteP, E.prop]
  simp only [E.den, Bi.den, Un.den]
  generalize fordI .f64 (u 0) (u 1) = D at F ⊢
  generalize iteP (9223372036854775808 ≤ u 0) (9223372036854775808 - u 0) (u 0) = a at F ⊢
  generalize iteP (9223372036854775808 ≤ u 1) (9223372036854775808 - u 1) (u 1) = b at F ⊢
  repeat' apply And.intro
  all_goals first | trivial | (intros; exact ⟨trivial, iteP_case (fun _ => by omega) (fun _ => by omega), trivial⟩)
end Go.Proofs.Ytnodelimomljbaa.PlainRefF

/- The ways of the reference's floats through numbers, and that the code takes no other. No condition. -/
namespace Go.Proofs.Ytnodelimomljbaa.RunRefE
open Go Go.Sx Go.Sx.Flt Go.Sx.Ref

def extrDR : List Leaf := [
  ([(.bin .lt (.lit 9218868437227405312) (.bin .emod (.var 1) (.lit 9223372036854775808))), (.bin .eq (.var 6) (plcE (.var 2))), (.bin .eq (.var 5) (magE (.var 2))), (.bin .eq (.var 4) (plcE (.var 1))), (.bin .eq (.var 3) (magE (.var 1)))], (.int .u64 (.lit 9221120237041090560))),
  ([(.bin .lt (.lit 9218868437227405312) (.bin .emod (.var 2) (.lit 9223372036854775808))), (.bin .le (.bin .emod (.var 1) (.lit 9223372036854775808)) (.lit 9218868437227405312)), (.bin .eq (.var 6) (plcE (.var 2))), (.bin .eq (.var 5) (magE (.var 2))), (.bin .eq (.var 4) (plcE (.var 1))), (.bin .eq (.var 3) (magE (.var 1)))], (.int .u64 (.lit 9221120237041090560))),
  ([(.bin .lt (.ite (.bin .le (.lit 9223372036854775808) (.var 1)) (.bin .sub (.lit 9223372036854775808) (.var 1)) (.var 1)) (.ite (.bin .le (.lit 9223372036854775808) (.var 2)) (.bin .sub (.lit 9223372036854775808) (.var 2)) (.var 2))), (.un .bnot (.bin .eq (.bin .lt (.ite (.bin .le (.lit 9223372036854775808) (.var 1)) (.bin .sub (.lit 9223372036854775808) (.var 1)) (.var 1)) (.ite (.bin .le (.lit 9223372036854775808) (.var 2)) (.bin .sub (.lit 9223372036854775808) (.var 2)) (.var 2))) (.un .bnot (.un .bnot (.var 0))))), (.bin .le (.bin .emod (.var 2) (.lit 9223372036854775808)) (.lit 9218868437227405312)), (.bin .le (.bin .emod (.var 1) (.lit 9223372036854775808)) (.lit 9218868437227405312)), (.bin .eq (.var 6) (plcE (.var 2))), (.bin .eq (.var 5) (magE (.var 2))), (.bin .eq (.var 4) (plcE (.var 1))), (.bin .eq (.var 3) (magE (.var 1)))], (.int .u64 (.var 1))),
  ([(.bin .lt (.ite (.bin .le (.lit 9223372036854775808) (.var 2)) (.bin .sub (.lit 9223372036854775808) (.var 2)) (.var 2)) (.ite (.bin .le (.lit 9223372036854775808) (.var 1)) (.bin .sub (.lit 9223372036854775808) (.var 1)) (.var 1))), (.bin .le (.ite (.bin .le (.lit 9223372036854775808) (.var 2)) (.bin .sub (.lit 9223372036854775808) (.var 2)) (.var 2)) (.ite (.bin .le (.lit 9223372036854775808) (.var 1)) (.bin .sub (.lit 9223372036854775808) (.var 1)) (.var 1))), (.un .bnot (.bin .eq (.bin .lt (.ite (.bin .le (.lit 9223372036854775808) (.var 1)) (.bin .sub (.lit 9223372036854775808) (.var 1)) (.var 1)) (.ite (.bin .le (.lit 9223372036854775808) (.var 2)) (.bin .sub (.lit 9223372036854775808) (.var 2)) (.var 2))) (.un .bnot (.un .bnot (.var 0))))), (.bin .le (.bin .emod (.var 2) (.lit 9223372036854775808)) (.lit 9218868437227405312)), (.bin .le (.bin .emod (.var 1) (.lit 9223372036854775808)) (.lit 9218868437227405312)), (.bin .eq (.var 6) (plcE (.var 2))), (.bin .eq (.var 5) (magE (.var 2))), (.bin .eq (.var 4) (plcE (.var 1))), (.bin .eq (.var 3) (magE (.var 1)))], (.int .u64 (.var 1))),
  ([(.var 0), (.bin .le (.ite (.bin .le (.lit 9223372036854775808) (.var 1)) (.bin .sub (.lit 9223372036854775808) (.var 1)) (.var 1)) (.ite (.bin .le (.lit 9223372036854775808) (.var 2)) (.bin .sub (.lit 9223372036854775808) (.var 2)) (.var 2))), (.bin .le (.ite (.bin .le (.lit 9223372036854775808) (.var 2)) (.bin .sub (.lit 9223372036854775808) (.var 2)) (.var 2)) (.ite (.bin .le (.lit 9223372036854775808) (.var 1)) (.bin .sub (.lit 9223372036854775808) (.var 1)) (.var 1))), (.un .bnot (.bin .eq (.bin .lt (.ite (.bin .le (.lit 9223372036854775808) (.var 1)) (.bin .sub (.lit 9223372036854775808) (.var 1)) (.var 1)) (.ite (.bin .le (.lit 9223372036854775808) (.var 2)) (.bin .sub (.lit 9223372036854775808) (.var 2)) (.var 2))) (.un .bnot (.un .bnot (.var 0))))), (.bin .le (.bin .emod (.var 2) (.lit 9223372036854775808)) (.lit 9218868437227405312)), (.bin .le (.bin .emod (.var 1) (.lit 9223372036854775808)) (.lit 9218868437227405312)), (.bin .eq (.var 6) (plcE (.var 2))), (.bin .eq (.var 5) (magE (.var 2))), (.bin .eq (.var 4) (plcE (.var 1))), (.bin .eq (.var 3) (magE (.var 1)))], (.int .u64 (.bin (.bits .and .u64) (.var 1) (.var 2)))),
  ([(.un .bnot (.var 0)), (.bin .le (.ite (.bin .le (.lit 9223372036854775808) (.var 1)) (.bin .sub (.lit 9223372036854775808) (.var 1)) (.var 1)) (.ite (.bin .le (.lit 9223372036854775808) (.var 2)) (.bin .sub (.lit 9223372036854775808) (.var 2)) (.var 2))), (.bin .le (.ite (.bin .le (.lit 9223372036854775808) (.var 2)) (.bin .sub (.lit 9223372036854775808) (.var 2)) (.var 2)) (.ite (.bin .le (.lit 9223372036854775808) (.var 1)) (.bin .sub (.lit 9223372036854775808) (.var 1)) (.var 1))), (.un .bnot (.bin .eq (.bin .lt (.ite (.bin .le (.lit 9223372036854775808) (.var 1)) (.bin .sub (.lit 9223372036854775808) (.var 1)) (.var 1)) (.ite (.bin .le (.lit 9223372036854775808) (.var 2)) (.bin .sub (.lit 9223372036854775808) (.var 2)) (.var 2))) (.un .bnot (.un .bnot (.var 0))))), (.bin .le (.bin .emod (.var 2) (.lit 9223372036854775808)) (.lit 9218868437227405312)), (.bin .le (.bin .emod (.var 1) (.lit 9223372036854775808)) (.lit 9218868437227405312)), (.bin .eq (.var 6) (plcE (.var 2))), (.bin .eq (.var 5) (magE (.var 2))), (.bin .eq (.var 4) (plcE (.var 1))), (.bin .eq (.var 3) (magE (.var 1)))], (.int .u64 (.bin (.bits .or .u64) (.var 1) (.var 2)))),
  ([(.bin .lt (.ite (.bin .le (.lit 9223372036854775808) (.var 1)) (.bin .sub (.lit 9223372036854775808) (.var 1)) (.var 1)) (.ite (.bin .le (.lit 9223372036854775808) (.var 2)) (.bin .sub (.lit 9223372036854775808) (.var 2)) (.var 2))), (.bin .eq (.bin .lt (.ite (.bin .le (.lit 9223372036854775808) (.var 1)) (.bin .sub (.lit 9223372036854775808) (.var 1)) (.var 1)) (.ite (.bin .le (.lit 9223372036854775808) (.var 2)) (.bin .sub (.lit 9223372036854775808) (.var 2)) (.var 2))) (.un .bnot (.un .bnot (.var 0)))), (.bin .le (.bin .emod (.var 2) (.lit 9223372036854775808)) (.lit 9218868437227405312)), (.bin .le (.bin .emod (.var 1) (.lit 9223372036854775808)) (.lit 9218868437227405312)), (.bin .eq (.var 6) (plcE (.var 2))), (.bin .eq (.var 5) (magE (.var 2))), (.bin .eq (.var 4) (plcE (.var 1))), (.bin .eq (.var 3) (magE (.var 1)))], (.int .u64 (.var 2))),
  ([(.bin .lt (.ite (.bin .le (.lit 9223372036854775808) (.var 2)) (.bin .sub (.lit 9223372036854775808) (.var 2)) (.var 2)) (.ite (.bin .le (.lit 9223372036854775808) (.var 1)) (.bin .sub (.lit 9223372036854775808) (.var 1)) (.var 1))), (.bin .le (.ite (.bin .le (.lit 9223372036854775808) (.var 2)) (.bin .sub (.lit 9223372036854775808) (.var 2)) (.var 2)) (.ite (.bin .le (.lit 9223372036854775808) (.var 1)) (.bin .sub (.lit 9223372036854775808) (.var 1)) (.var 1))), (.bin .eq (.bin .lt (.ite (.bin .le (.lit 9223372036854775808) (.var 1)) (.bin .sub (.lit 9223372036854775808) (.var 1)) (.var 1)) (.ite (.bin .le (.lit 9223372036854775808) (.var 2)) (.bin .sub (.lit 9223372036854775808) (.var 2)) (.var 2))) (.un .bnot (.un .bnot (.var 0)))), (.bin .le (.bin .emod (.var 2) (.lit 9223372036854775808)) (.lit 9218868437227405312)), (.bin .le (.bin .emod (.var 1) (.lit 9223372036854775808)) (.lit 9218868437227405312)), (.bin .eq (.var 6) (plcE (.var 2))), (.bin .eq (.var 5) (magE (.var 2))), (.bin .eq (.var 4) (plcE (.var 1))), (.bin .eq (.var 3) (magE (.var 1)))], (.int .u64 (.var 2))),
  ([(.var 0), (.bin .le (.ite (.bin .le (.lit 9223372036854775808) (.var 1)) (.bin .sub (.lit 9223372036854775808) (.var 1)) (.var 1)) (.ite (.bin .le (.lit 9223372036854775808) (.var 2)) (.bin .sub (.lit 9223372036854775808) (.var 2)) (.var 2))), (.bin .le (.ite (.bin .le (.lit 9223372036854775808) (.var 2)) (.bin .sub (.lit 9223372036854775808) (.var 2)) (.var 2)) (.ite (.bin .le (.lit 9223372036854775808) (.var 1)) (.bin .sub (.lit 9223372036854775808) (.var 1)) (.var 1))), (.bin .eq (.bin .lt (.ite (.bin .le (.lit 9223372036854775808) (.var 1)) (.bin .sub (.lit 9223372036854775808) (.var 1)) (.var 1)) (.ite (.bin .le (.lit 9223372036854775808) (.var 2)) (.bin .sub (.lit 9223372036854775808) (.var 2)) (.var 2))) (.un .bnot (.un .bnot (.var 0)))), (.bin .le (.bin .emod (.var 2) (.lit 9223372036854775808)) (.lit 9218868437227405312)), (.bin .le (.bin .emod (.var 1) (.lit 9223372036854775808)) (.lit 9218868437227405312)), (.bin .eq (.var 6) (plcE (.var 2))), (.bin .eq (.var 5) (magE (.var 2))), (.bin .eq (.var 4) (plcE (.var 1))), (.bin .eq (.var 3) (magE (.var 1)))], (.int .u64 (.bin (.bits .and .u64) (.var 1) (.var 2)))),
  ([(.un .bnot (.var 0)), (.bin .le (.ite (.bin .le (.lit 9223372036854775808) (.var 1)) (.bin .sub (.lit 9223372036854775808) (.var 1)) (.var 1)) (.ite (.bin .le (.lit 9223372036854775808) (.var 2)) (.bin .sub (.lit 9223372036854775808) (.var 2)) (.var 2))), (.bin .le (.ite (.bin .le (.lit 9223372036854775808) (.var 2)) (.bin .sub (.lit 9223372036854775808) (.var 2)) (.var 2)) (.ite (.bin .le (.lit 9223372036854775808) (.var 1)) (.bin .sub (.lit 9223372036854775808) (.var 1)) (.var 1))), (.bin .eq (.bin .lt (.ite (.bin .le (.lit 9223372036854775808) (.var 1)) (.bin .sub (.lit 9223372036854775808) (.var 1)) (.var 1)) (.ite (.bin .le (.lit 9223372036854775808) (.var 2)) (.bin .sub (.lit 9223372036854775808) (.var 2)) (.var 2))) (.un .bnot (.un .bnot (.var 0)))), (.bin .le (.bin .emod (.var 2) (.lit 9223372036854775808)) (.lit 9218868437227405312)), (.bin .le (.bin .emod (.var 1) (.lit 9223372036854775808)) (.lit 9218868437227405312)), (.bin .eq (.var 6) (plcE (.var 2))), (.bin .eq (.var 5) (magE (.var 2))), (.bin .eq (.var 4) (plcE (.var 1))), (.bin .eq (.var 3) (magE (.var 1)))], (.int .u64 (.bin (.bits .or .u64) (.var 1) (.var 2)))),
  ([(.bin .lt (.lit 9218868437227405312) (.bin .emod (.var 1) (.lit 9223372036854775808))), (.bin .eq (.var 6) (plcE (.var 2))), (.bin .eq (.var 5) (magE (.var 2))), (.bin .eq (.var 4) (plcE (.var 1))), (.bin .eq (.var 3) (magE (.var 1)))], (.int .u64 (.lit 9221120237041090560))),
  ([(.bin .lt (.lit 9218868437227405312) (.bin .emod (.var 2) (.lit 9223372036854775808))), (.bin .le (.bin .emod (.var 1) (.lit 9223372036854775808)) (.lit 9218868437227405312)), (.bin .eq (.var 6) (plcE (.var 2))), (.bin .eq (.var 5) (magE (.var 2))), (.bin .eq (.var 4) (plcE (.var 1))), (.bin .eq (.var 3) (magE (.var 1)))], (.int .u64 (.lit 9221120237041090560))),
  ([(.bin .lt (.ite (.bin .le (.lit 9223372036854775808) (.var 1)) (.bin .sub (.lit 9223372036854775808) (.var 1)) (.var 1)) (.ite (.bin .le (.lit 9223372036854775808) (.var 2)) (.bin .sub (.lit 9223372036854775808) (.var 2)) (.var 2))), (.un .bnot (.bin .eq (.bin .lt (.ite (.bin .le (.lit 9223372036854775808) (.var 1)) (.bin .sub (.lit 9223372036854775808) (.var 1)) (.var 1)) (.ite (.bin .le (.lit 9223372036854775808) (.var 2)) (.bin .sub (.lit 9223372036854775808) (.var 2)) (.var 2))) (.un .bnot (.un .bnot (.var 0))))), (.bin .le (.bin .emod (.var 2) (.lit 9223372036854775808)) (.lit 9218868437227405312)), (.bin .le (.bin .emod (.var 1) (.lit 9223372036854775808)) (.lit 9218868437227405312)), (.bin .eq (.var 6) (plcE (.var 2))), (.bin .eq (.var 5) (magE (.var 2))), (.bin .eq (.var 4) (plcE (.var 1))), (.bin .eq (.var 3) (magE (.var 1)))], (.int .u64 (.var 1))),
  ([(.bin .lt (.ite (.bin .le (.lit 9223372036854775808) (.var 2)) (.bin .sub (.lit 9223372036854775808) (.var 2)) (.var 2)) (.ite (.bin .le (.lit 9223372036854775808) (.var 1)) (.bin .sub (.lit 9223372036854775808) (.var 1)) (.var 1))), (.bin .le (.ite (.bin .le (.lit 9223372036854775808) (.var 2)) (.bin .sub (.lit 9223372036854775808) (.var 2)) (.var 2)) (.ite (.bin .le (.lit 9223372036854775808) (.var 1)) (.bin .sub (.lit 9223372036854775808) (.var 1)) (.var 1))), (.un .bnot (.bin .eq (.bin .lt (.ite (.bin .le (.lit 9223372036854775808) (.var 1)) (.bin .sub (.lit 9223372036854775808) (.var 1)) (.var 1)) (.ite (.bin .le (.lit 9223372036854775808) (.var 2)) (.bin .sub (.lit 9223372036854775808) (.var 2)) (.var 2))) (.un .bnot (.un .bnot (.var 0))))), (.bin .le (.bin .emod (.var 2) (.lit 9223372036854775808)) (.lit 9218868437227405312)), (.bin .le (.bin .emod (.var 1) (.lit 9223372036854775808)) (.lit 9218868437227405312)), (.bin .eq (.var 6) (plcE (.var 2))), (.bin .eq (.var 5) (magE (.var 2))), (.bin .eq (.var 4) (plcE (.var 1))), (.bin .eq (.var 3) (magE (.var 1)))], (.int .u64 (.var 1))),
  ([(.var 0), (.bin .le (.ite (.bin .le (.lit 9223372036854775808) (.var 1)) (.bin .sub (.lit 9223372036854775808) (.var 1)) (.var 1)) (.ite (.bin .le (.lit 9223372036854775808) (.var 2)) (.bin .sub (.lit 9223372036854775808) (.var 2)) (.var 2))), (.bin .le (.ite (.bin .le (.lit 9223372036854775808) (.var 2)) (.bin .sub (.lit 9223372036854775808) (.var 2)) (.var 2)) (.ite (.bin .le (.lit 9223372036854775808) (.var 1)) (.bin .sub (.lit 9223372036854775808) (.var 1)) (.var 1))), (.un .bnot (.bin .eq (.bin .lt (.ite (.bin .le (.lit 9223372036854775808) (.var 1)) (.bin .sub (.lit 9223372036854775808) (.var 1)) (.var 1)) (.ite (.bin .le (.lit 9223372036854775808) (.var 2)) (.bin .sub (.lit 9223372036854775808) (.var 2)) (.var 2))) (.un .bnot (.un .bnot (.var 0))))), (.bin .le (.bin .emod (.var 2) (.lit 9223372036854775808)) (.lit 9218868437227405312)), (.bin .le (.bin .emod (.var 1) (.lit 9223372036854775808)) (.lit 9218868437227405312)), (.bin .eq (.var 6) (plcE (.var 2))), (.bin .eq (.var 5) (magE (.var 2))), (.bin .eq (.var 4) (plcE (.var 1))), (.bin .eq (.var 3) (magE (.var 1)))], (.int .u64 (.bin (.bits .and .u64) (.var 1) (.var 2)))),
  ([(.un .bnot (.var 0)), (.bin .le (.ite (.bin .le (.lit 9223372036854775808) (.var 1)) (.bin .sub (.lit 9223372036854775808) (.var 1)) (.var 1)) (.ite (.bin .le (.lit 9223372036854775808) (.var 2)) (.bin .sub (.lit 9223372036854775808) (.var 2)) (.var 2))), (.bin .le (.ite (.bin .le (.lit 9223372036854775808) (.var 2)) (.bin .sub (.lit 9223372036854775808) (.var 2)) (.var 2)) (.ite (.bin .le (.lit 9223372036854775808) (.var 1)) (.bin .sub (.lit 9223372036854775808) (.var 1)) (.var 1))), (.un .bnot (.bin .eq (.bin .lt (.ite (.bin .le (.lit 9223372036854775808) (.var 1)) (.bin .sub (.lit 9223372036854775808) (.var 1)) (.var 1)) (.ite (.bin .le (.lit 9223372036854775808) (.var 2)) (.bin .sub (.lit 9223372036854775808) (.var 2)) (.var 2))) (.un .bnot (.un .bnot (.var 0))))), (.bin .le (.bin .emod (.var 2) (.lit 9223372036854775808)) (.lit 9218868437227405312)), (.bin .le (.bin .emod (.var 1) (.lit 9223372036854775808)) (.lit 9218868437227405312)), (.bin .eq (.var 6) (plcE (.var 2))), (.bin .eq (.var 5) (magE (.var 2))), (.bin .eq (.var 4) (plcE (.var 1))), (.bin .eq (.var 3) (magE (.var 1)))], (.int .u64 (.bin (.bits .or .u64) (.var 1) (.var 2)))),
  ([(.bin .lt (.ite (.bin .le (.lit 9223372036854775808) (.var 1)) (.bin .sub (.lit 9223372036854775808) (.var 1)) (.var 1)) (.ite (.bin .le (.lit 9223372036854775808) (.var 2)) (.bin .sub (.lit 9223372036854775808) (.var 2)) (.var 2))), (.bin .eq (.bin .lt (.ite (.bin .le (.lit 9223372036854775808) (.var 1)) (.bin .sub (.lit 9223372036854775808) (.var 1)) (.var 1)) (.ite (.bin .le (.lit 9223372036854775808) (.var 2)) (.bin .sub (.lit 9223372036854775808) (.var 2)) (.var 2))) (.un .bnot (.un .bnot (.var 0)))), (.bin .le (.bin .emod (.var 2) (.lit 9223372036854775808)) (.lit 9218868437227405312)), (.bin .le (.bin .emod (.var 1) (.lit 9223372036854775808)) (.lit 9218868437227405312)), (.bin .eq (.var 6) (plcE (.var 2))), (.bin .eq (.var 5) (magE (.var 2))), (.bin .eq (.var 4) (plcE (.var 1))), (.bin .eq (.var 3) (magE (.var 1)))], (.int .u64 (.var 2))),
  ([(.bin .lt (.ite (.bin .le (.lit 9223372036854775808) (.var 2)) (.bin .sub (.lit 9223372036854775808) (.var 2)) (.var 2)) (.ite (.bin .le (.lit 9223372036854775808) (.var 1)) (.bin .sub (.lit 9223372036854775808) (.var 1)) (.var 1))), (.bin .le (.ite (.bin .le (.lit 9223372036854775808) (.var 2)) (.bin .sub (.lit 9223372036854775808) (.var 2)) (.var 2)) (.ite (.bin .le (.lit 9223372036854775808) (.var 1)) (.bin .sub (.lit 9223372036854775808) (.var 1)) (.var 1))), (.bin .eq (.bin .lt (.ite (.bin .le (.lit 9223372036854775808) (.var 1)) (.bin .sub (.lit 9223372036854775808) (.var 1)) (.var 1)) (.ite (.bin .le (.lit 9223372036854775808) (.var 2)) (.bin .sub (.lit 9223372036854775808) (.var 2)) (.var 2))) (.un .bnot (.un .bnot (.var 0)))), (.bin .le (.bin .emod (.var 2) (.lit 9223372036854775808)) (.lit 9218868437227405312)), (.bin .le (.bin .emod (.var 1) (.lit 9223372036854775808)) (.lit 9218868437227405312)), (.bin .eq (.var 6) (plcE (.var 2))), (.bin .eq (.var 5) (magE (.var 2))), (.bin .eq (.var 4) (plcE (.var 1))), (.bin .eq (.var 3) (magE (.var 1)))], (.int .u64 (.var 2))),
  ([(.var 0), (.bin .le (.ite (.bin .le (.lit 9223372036854775808) (.var 1)) (.bin .sub (.lit 9223372036854775808) (.var 1)) (.var 1)) (.ite (.bin .le (.lit 9223372036854775808) (.var 2)) (.bin .sub (.lit 9223372036854775808) (.var 2)) (.var 2))), (.bin .le (.ite (.bin .le (.lit 9223372036854775808) (.var 2)) (.bin .sub (.lit 9223372036854775808) (.var 2)) (.var 2)) (.ite (.bin .le (.lit 9223372036854775808) (.var 1)) (.bin .sub (.lit 9223372036854775808) (.var 1)) (.var 1))), (.bin .eq (.bin .lt (.ite (.bin .le (.lit 9223372036854775808) (.var 1)) (.bin .sub (.lit 9223372036854775808) (.var 1)) (.var 1)) (.ite (.bin .le (.lit 9223372036854775808) (.var 2)) (.bin .sub (.lit 9223372036854775808) (.var 2)) (.var 2))) (.un .bnot (.un .bnot (.var 0)))), (.bin .le (.bin .emod (.var 2) (.lit 9223372036854775808)) (.lit 9218868437227405312)), (.bin .le (.bin .emod (.var 1) (.lit 9223372036854775808)) (.lit 9218868437227405312)), (.bin .eq (.var 6) (plcE (.var 2))), (.bin .eq (.var 5) (magE (.var 2))), (.bin .eq (.var 4) (plcE (.var 1))), (.bin .eq (.var 3) (magE (.var 1)))], (.int .u64 (.bin (.bits .and .u64) (.var 1) (.var 2)))),
  ([(.un .bnot (.var 0)), (.bin .le (.ite (.bin .le (.lit 9223372036854775808) (.var 1)) (.bin .sub (.lit 9223372036854775808) (.var 1)) (.var 1)) (.ite (.bin .le (.lit 9223372036854775808) (.var 2)) (.bin .sub (.lit 9223372036854775808) (.var 2)) (.var 2))), (.bin .le (.ite (.bin .le (.lit 9223372036854775808) (.var 2)) (.bin .sub (.lit 9223372036854775808) (.var 2)) (.var 2)) (.ite (.bin .le (.lit 9223372036854775808) (.var 1)) (.bin .sub (.lit 9223372036854775808) (.var 1)) (.var 1))), (.bin .eq (.bin .lt (.ite (.bin .le (.lit 9223372036854775808) (.var 1)) (.bin .sub (.lit 9223372036854775808) (.var 1)) (.var 1)) (.ite (.bin .le (.lit 9223372036854775808) (.var 2)) (.bin .sub (.lit 9223372036854775808) (.var 2)) (.var 2))) (.un .bnot (.un .bnot (.var 0)))), (.bin .le (.bin .emod (.var 2) (.lit 9223372036854775808)) (.lit 9218868437227405312)), (.bin .le (.bin .emod (.var 1) (.lit 9223372036854775808)) (.lit 9218868437227405312)), (.bin .eq (.var 6) (plcE (.var 2))), (.bin .eq (.var 5) (magE (.var 2))), (.bin .eq (.var 4) (plcE (.var 1))), (.bin .eq (.var 3) (magE (.var 1)))], (.int .u64 (.bin (.bits .or .u64) (.var 1) (.var 2))))]
set_option maxRecDepth 100000 in
theorem extrDRan : runOfG Try.prog (orcs (nameO (gOracle [apartD])) (gOracle (gsD0 ++ [lessD]))) noLoops (bodies fns) [] 4000 extrD = some extrDR := by kernel_rfl
def unDR : List Leaf := [
  ([(.bin .eq (.var 0) (.lit 0)), (.bin .le (.lit 0) (.var 0)), (.bin .le (.var 0) (.lit 6))], (.int .u64 (.bin (.bits .andNot .u64) (.var 1) (.ite (.un .bnot (.un .bnot (.lit 1))) (.lit 9223372036854775808) (.lit 0))))),
  ([(.bin .eq (.var 0) (.lit 1)), (.un .bnot (.bin .eq (.var 0) (.lit 0))), (.bin .le (.lit 0) (.var 0)), (.bin .le (.var 0) (.lit 6))], (.int .u64 (.bin (.bits .xor .u64) (.var 1) (.ite (.un .bnot (.un .bnot (.lit 1))) (.lit 9223372036854775808) (.lit 0))))),
  ([(.bin .eq (.var 3) (plcE (.var 1))), (.bin .eq (.var 2) (magE (.var 1))), (.bin .eq (.var 0) (.lit 6)), (.un .bnot (.bin .eq (.var 0) (.lit 1))), (.un .bnot (.bin .eq (.var 0) (.lit 0))), (.bin .le (.lit 0) (.var 0)), (.bin .le (.var 0) (.lit 6))], (.int .u64 (.ite (.bin .or (.bin .lt (.lit 9218868437227405312) (.bin .emod (.var 1) (.lit 9223372036854775808))) (.bin .and (.bin .le (.lit 9223372036854775808) (.var 1)) (.bin .or (.bin .eq (.bin .emod (.var 1) (.lit 9223372036854775808)) (.lit 9218868437227405312)) (.un .bnot (.bin .eq (.var 2) (.lit 0)))))) (.lit 9221120237041090560) (.ite (.bin .eq (.bin .emod (.var 1) (.lit 9223372036854775808)) (.lit 9218868437227405312)) (.lit 9218868437227405312) (.ite (.bin .eq (.var 2) (.lit 0)) (.ite (.bin .le (.lit 9223372036854775808) (.var 1)) (.lit 9223372036854775808) (.lit 0)) (.fn 10 (.bin .add (.bin .mul (.var 2) (.lit 4096)) (.bin .add (.var 3) (.lit 2048))) (.lit 0) (.lit 0))))))),
  ([(.un .bnot (.bin .eq (.var 0) (.lit 6))), (.un .bnot (.bin .eq (.var 0) (.lit 1))), (.un .bnot (.bin .eq (.var 0) (.lit 0))), (.bin .le (.lit 0) (.var 0)), (.bin .le (.var 0) (.lit 6))], (.int .u64 (.ite (.bin .eq (.bin .add (.var 0) (.lit (-2))) (.lit 0)) (.ite (.bin .eq (.un (.fwhole .up) (.var 1)) (.lit (-1))) (.lit 9221120237041090560) (.un (.fwhole .up) (.var 1))) (.ite (.bin .eq (.bin .add (.var 0) (.lit (-2))) (.lit 1)) (.ite (.bin .eq (.un (.fwhole .down) (.var 1)) (.lit (-1))) (.lit 9221120237041090560) (.un (.fwhole .down) (.var 1))) (.ite (.bin .eq (.bin .add (.var 0) (.lit (-2))) (.lit 2)) (.ite (.bin .eq (.un (.fwhole .zero) (.var 1)) (.lit (-1))) (.lit 9221120237041090560) (.un (.fwhole .zero) (.var 1))) (.ite (.bin .eq (.un (.fwhole .even) (.var 1)) (.lit (-1))) (.lit 9221120237041090560) (.un (.fwhole .even) (.var 1))))))))]
set_option maxRecDepth 100000 in
theorem unDRan : runOfG Try.prog (orcs (nameO (gOracle [apartD])) (gOracle (gsD0 ++ [rootD, wholeD]))) noLoops (bodies fns) [] 4000 unD = some unDR := by kernel_rfl
def binDR : List Leaf := [
  ([(.bin .eq (.var 0) (.lit 0)), (.bin .eq (.var 6) (plcE (.var 2))), (.bin .eq (.var 5) (magE (.var 2))), (.bin .eq (.var 4) (plcE (.var 1))), (.bin .eq (.var 3) (magE (.var 1))), (.bin .le (.lit 0) (.var 0)), (.bin .le (.var 0) (.lit 6))], (.int .u64 (.ite (.bin .or (.bin .or (.bin .lt (.lit 9218868437227405312) (.bin .emod (.var 1) (.lit 9223372036854775808))) (.bin .lt (.lit 9218868437227405312) (.bin .emod (.var 2) (.lit 9223372036854775808)))) (.bin .and (.bin .and (.bin .eq (.bin .emod (.var 1) (.lit 9223372036854775808)) (.lit 9218868437227405312)) (.bin .eq (.bin .emod (.var 2) (.lit 9223372036854775808)) (.lit 9218868437227405312))) (.un .bnot (.bin .eq (.bin .le (.lit 9223372036854775808) (.var 1)) (.bin .le (.lit 9223372036854775808) (.var 2)))))) (.lit 9221120237041090560) (.ite (.bin .eq (.bin .emod (.var 1) (.lit 9223372036854775808)) (.lit 9218868437227405312)) (.ite (.bin .le (.lit 9223372036854775808) (.var 1)) (.lit 18442240474082181120) (.lit 9218868437227405312)) (.ite (.bin .eq (.bin .emod (.var 2) (.lit 9223372036854775808)) (.lit 9218868437227405312)) (.ite (.bin .le (.lit 9223372036854775808) (.var 2)) (.lit 18442240474082181120) (.lit 9218868437227405312)) (.fn 6 (.bin .add (.bin .mul (.var 3) (.lit 4096)) (.bin .add (.var 4) (.lit 2048))) (.bin .add (.bin .mul (.var 5) (.lit 4096)) (.bin .add (.var 6) (.lit 2048))) (.bin .add (.bin .mul (.bin .le (.lit 9223372036854775808) (.var 1)) (.lit 2)) (.bin .le (.lit 9223372036854775808) (.var 2))))))))),
  ([(.bin .eq (.var 0) (.lit 1)), (.un .bnot (.bin .eq (.var 0) (.lit 0))), (.bin .eq (.var 6) (plcE (.var 2))), (.bin .eq (.var 5) (magE (.var 2))), (.bin .eq (.var 4) (plcE (.var 1))), (.bin .eq (.var 3) (magE (.var 1))), (.bin .le (.lit 0) (.var 0)), (.bin .le (.var 0) (.lit 6))], (.int .u64 (.ite (.bin .or (.bin .or (.bin .lt (.lit 9218868437227405312) (.bin .emod (.var 1) (.lit 9223372036854775808))) (.bin .lt (.lit 9218868437227405312) (.bin .emod (.var 2) (.lit 9223372036854775808)))) (.bin .and (.bin .and (.bin .eq (.bin .emod (.var 1) (.lit 9223372036854775808)) (.lit 9218868437227405312)) (.bin .eq (.bin .emod (.var 2) (.lit 9223372036854775808)) (.lit 9218868437227405312))) (.un .bnot (.bin .eq (.bin .le (.lit 9223372036854775808) (.var 1)) (.bin .lt (.var 2) (.lit 9223372036854775808)))))) (.lit 9221120237041090560) (.ite (.bin .eq (.bin .emod (.var 1) (.lit 9223372036854775808)) (.lit 9218868437227405312)) (.ite (.bin .le (.lit 9223372036854775808) (.var 1)) (.lit 18442240474082181120) (.lit 9218868437227405312)) (.ite (.bin .eq (.bin .emod (.var 2) (.lit 9223372036854775808)) (.lit 9218868437227405312)) (.ite (.bin .lt (.var 2) (.lit 9223372036854775808)) (.lit 18442240474082181120) (.lit 9218868437227405312)) (.fn 6 (.bin .add (.bin .mul (.var 3) (.lit 4096)) (.bin .add (.var 4) (.lit 2048))) (.bin .add (.bin .mul (.var 5) (.lit 4096)) (.bin .add (.var 6) (.lit 2048))) (.bin .add (.bin .mul (.bin .le (.lit 9223372036854775808) (.var 1)) (.lit 2)) (.bin .lt (.var 2) (.lit 9223372036854775808))))))))),
  ([(.bin .eq (.var 0) (.lit 2)), (.un .bnot (.bin .eq (.var 0) (.lit 1))), (.un .bnot (.bin .eq (.var 0) (.lit 0))), (.bin .eq (.var 6) (plcE (.var 2))), (.bin .eq (.var 5) (magE (.var 2))), (.bin .eq (.var 4) (plcE (.var 1))), (.bin .eq (.var 3) (magE (.var 1))), (.bin .le (.lit 0) (.var 0)), (.bin .le (.var 0) (.lit 6))], (.int .u64 (.ite (.bin .or (.bin .or (.bin .lt (.lit 9218868437227405312) (.bin .emod (.var 1) (.lit 9223372036854775808))) (.bin .lt (.lit 9218868437227405312) (.bin .emod (.var 2) (.lit 9223372036854775808)))) (.bin .or (.bin .and (.bin .eq (.bin .emod (.var 1) (.lit 9223372036854775808)) (.lit 9218868437227405312)) (.bin .and (.un .bnot (.bin .eq (.bin .emod (.var 2) (.lit 9223372036854775808)) (.lit 9218868437227405312))) (.bin .eq (.var 5) (.lit 0)))) (.bin .and (.bin .eq (.bin .emod (.var 2) (.lit 9223372036854775808)) (.lit 9218868437227405312)) (.bin .and (.un .bnot (.bin .eq (.bin .emod (.var 1) (.lit 9223372036854775808)) (.lit 9218868437227405312))) (.bin .eq (.var 3) (.lit 0)))))) (.lit 9221120237041090560) (.ite (.bin .or (.bin .eq (.bin .emod (.var 1) (.lit 9223372036854775808)) (.lit 9218868437227405312)) (.bin .eq (.bin .emod (.var 2) (.lit 9223372036854775808)) (.lit 9218868437227405312))) (.ite (.un .bnot (.bin .eq (.bin .le (.lit 9223372036854775808) (.var 1)) (.bin .le (.lit 9223372036854775808) (.var 2)))) (.lit 18442240474082181120) (.lit 9218868437227405312)) (.bin .add (.ite (.un .bnot (.bin .eq (.bin .le (.lit 9223372036854775808) (.var 1)) (.bin .le (.lit 9223372036854775808) (.var 2)))) (.lit 9223372036854775808) (.lit 0)) (.fn 4 (.bin .mul (.var 3) (.var 5)) (.bin .add (.var 4) (.var 6)) (.lit 0))))))),
  ([(.bin .eq (.var 0) (.lit 3)), (.un .bnot (.bin .eq (.var 0) (.lit 2))), (.un .bnot (.bin .eq (.var 0) (.lit 1))), (.un .bnot (.bin .eq (.var 0) (.lit 0))), (.bin .eq (.var 6) (plcE (.var 2))), (.bin .eq (.var 5) (magE (.var 2))), (.bin .eq (.var 4) (plcE (.var 1))), (.bin .eq (.var 3) (magE (.var 1))), (.bin .le (.lit 0) (.var 0)), (.bin .le (.var 0) (.lit 6))], (.int .u64 (.ite (.bin .or (.bin .or (.bin .lt (.lit 9218868437227405312) (.bin .emod (.var 1) (.lit 9223372036854775808))) (.bin .lt (.lit 9218868437227405312) (.bin .emod (.var 2) (.lit 9223372036854775808)))) (.bin .or (.bin .and (.bin .eq (.bin .emod (.var 1) (.lit 9223372036854775808)) (.lit 9218868437227405312)) (.bin .eq (.bin .emod (.var 2) (.lit 9223372036854775808)) (.lit 9218868437227405312))) (.bin .and (.bin .and (.un .bnot (.bin .eq (.bin .emod (.var 1) (.lit 9223372036854775808)) (.lit 9218868437227405312))) (.un .bnot (.bin .eq (.bin .emod (.var 2) (.lit 9223372036854775808)) (.lit 9218868437227405312)))) (.bin .and (.bin .eq (.var 3) (.lit 0)) (.bin .eq (.var 5) (.lit 0)))))) (.lit 9221120237041090560) (.ite (.bin .or (.bin .eq (.bin .emod (.var 1) (.lit 9223372036854775808)) (.lit 9218868437227405312)) (.bin .and (.un .bnot (.bin .eq (.bin .emod (.var 2) (.lit 9223372036854775808)) (.lit 9218868437227405312))) (.bin .eq (.var 5) (.lit 0)))) (.ite (.un .bnot (.bin .eq (.bin .le (.lit 9223372036854775808) (.var 1)) (.bin .le (.lit 9223372036854775808) (.var 2)))) (.lit 18442240474082181120) (.lit 9218868437227405312)) (.ite (.bin .or (.bin .eq (.bin .emod (.var 2) (.lit 9223372036854775808)) (.lit 9218868437227405312)) (.bin .eq (.var 3) (.lit 0))) (.ite (.un .bnot (.bin .eq (.bin .le (.lit 9223372036854775808) (.var 1)) (.bin .le (.lit 9223372036854775808) (.var 2)))) (.lit 9223372036854775808) (.lit 0)) (.bin .add (.ite (.un .bnot (.bin .eq (.bin .le (.lit 9223372036854775808) (.var 1)) (.bin .le (.lit 9223372036854775808) (.var 2)))) (.lit 9223372036854775808) (.lit 0)) (.fn 8 (.bin .add (.bin .mul (.var 3) (.lit 4096)) (.bin .add (.var 4) (.lit 2048))) (.bin .add (.bin .mul (.var 5) (.lit 4096)) (.bin .add (.var 6) (.lit 2048))) (.lit 0)))))))),
  ([(.bin .eq (.var 0) (.lit 4)), (.un .bnot (.bin .eq (.var 0) (.lit 3))), (.un .bnot (.bin .eq (.var 0) (.lit 2))), (.un .bnot (.bin .eq (.var 0) (.lit 1))), (.un .bnot (.bin .eq (.var 0) (.lit 0))), (.bin .eq (.var 6) (plcE (.var 2))), (.bin .eq (.var 5) (magE (.var 2))), (.bin .eq (.var 4) (plcE (.var 1))), (.bin .eq (.var 3) (magE (.var 1))), (.bin .le (.lit 0) (.var 0)), (.bin .le (.var 0) (.lit 6))], (.int .u64 (.ite (.bin .eq (.var 0) (.lit 5)) (.ite (.un .bnot (.bin .eq (.bin (.ford .f64) (.var 1) (.var 1)) (.lit 0))) (.lit 9221120237041090560) (.ite (.un .bnot (.bin .eq (.bin (.ford .f64) (.var 2) (.var 2)) (.lit 0))) (.lit 9221120237041090560) (.bin (.fpick false) (.var 1) (.var 2)))) (.ite (.un .bnot (.bin .eq (.bin (.ford .f64) (.var 1) (.var 1)) (.lit 0))) (.lit 9221120237041090560) (.ite (.un .bnot (.bin .eq (.bin (.ford .f64) (.var 2) (.var 2)) (.lit 0))) (.lit 9221120237041090560) (.bin (.fpick true) (.var 1) (.var 2))))))),
  ([(.bin .eq (.var 0) (.lit 5)), (.un .bnot (.bin .eq (.var 0) (.lit 4))), (.un .bnot (.bin .eq (.var 0) (.lit 3))), (.un .bnot (.bin .eq (.var 0) (.lit 2))), (.un .bnot (.bin .eq (.var 0) (.lit 1))), (.un .bnot (.bin .eq (.var 0) (.lit 0))), (.bin .eq (.var 6) (plcE (.var 2))), (.bin .eq (.var 5) (magE (.var 2))), (.bin .eq (.var 4) (plcE (.var 1))), (.bin .eq (.var 3) (magE (.var 1))), (.bin .le (.lit 0) (.var 0)), (.bin .le (.var 0) (.lit 6))], (.int .u64 (.ite (.bin .eq (.var 0) (.lit 5)) (.ite (.un .bnot (.bin .eq (.bin (.ford .f64) (.var 1) (.var 1)) (.lit 0))) (.lit 9221120237041090560) (.ite (.un .bnot (.bin .eq (.bin (.ford .f64) (.var 2) (.var 2)) (.lit 0))) (.lit 9221120237041090560) (.bin (.fpick false) (.var 1) (.var 2)))) (.ite (.un .bnot (.bin .eq (.bin (.ford .f64) (.var 1) (.var 1)) (.lit 0))) (.lit 9221120237041090560) (.ite (.un .bnot (.bin .eq (.bin (.ford .f64) (.var 2) (.var 2)) (.lit 0))) (.lit 9221120237041090560) (.bin (.fpick true) (.var 1) (.var 2))))))),
  ([(.un .bnot (.bin .eq (.var 0) (.lit 5))), (.un .bnot (.bin .eq (.var 0) (.lit 4))), (.un .bnot (.bin .eq (.var 0) (.lit 3))), (.un .bnot (.bin .eq (.var 0) (.lit 2))), (.un .bnot (.bin .eq (.var 0) (.lit 1))), (.un .bnot (.bin .eq (.var 0) (.lit 0))), (.bin .eq (.var 6) (plcE (.var 2))), (.bin .eq (.var 5) (magE (.var 2))), (.bin .eq (.var 4) (plcE (.var 1))), (.bin .eq (.var 3) (magE (.var 1))), (.bin .le (.lit 0) (.var 0)), (.bin .le (.var 0) (.lit 6))], (.int .u64 (.bin (.bits .or .u64) (.bin (.bits .andNot .u64) (.var 1) (.ite (.un .bnot (.un .bnot (.lit 1))) (.lit 9223372036854775808) (.lit 0))) (.bin (.bits .and .u64) (.var 2) (.ite (.un .bnot (.un .bnot (.lit 1))) (.lit 9223372036854775808) (.lit 0)))))),
  ([(.bin .eq (.var 0) (.lit 0)), (.bin .eq (.var 6) (plcE (.var 2))), (.bin .eq (.var 5) (magE (.var 2))), (.bin .eq (.var 4) (plcE (.var 1))), (.bin .eq (.var 3) (magE (.var 1))), (.bin .le (.lit 0) (.var 0)), (.bin .le (.var 0) (.lit 6))], (.int .u64 (.ite (.bin .or (.bin .or (.bin .lt (.lit 9218868437227405312) (.bin .emod (.var 1) (.lit 9223372036854775808))) (.bin .lt (.lit 9218868437227405312) (.bin .emod (.var 2) (.lit 9223372036854775808)))) (.bin .and (.bin .and (.bin .eq (.bin .emod (.var 1) (.lit 9223372036854775808)) (.lit 9218868437227405312)) (.bin .eq (.bin .emod (.var 2) (.lit 9223372036854775808)) (.lit 9218868437227405312))) (.un .bnot (.bin .eq (.bin .le (.lit 9223372036854775808) (.var 1)) (.bin .le (.lit 9223372036854775808) (.var 2)))))) (.lit 9221120237041090560) (.ite (.bin .eq (.bin .emod (.var 1) (.lit 9223372036854775808)) (.lit 9218868437227405312)) (.ite (.bin .le (.lit 9223372036854775808) (.var 1)) (.lit 18442240474082181120) (.lit 9218868437227405312)) (.ite (.bin .eq (.bin .emod (.var 2) (.lit 9223372036854775808)) (.lit 9218868437227405312)) (.ite (.bin .le (.lit 9223372036854775808) (.var 2)) (.lit 18442240474082181120) (.lit 9218868437227405312)) (.fn 6 (.bin .add (.bin .mul (.var 3) (.lit 4096)) (.bin .add (.var 4) (.lit 2048))) (.bin .add (.bin .mul (.var 5) (.lit 4096)) (.bin .add (.var 6) (.lit 2048))) (.bin .add (.bin .mul (.bin .le (.lit 9223372036854775808) (.var 1)) (.lit 2)) (.bin .le (.lit 9223372036854775808) (.var 2))))))))),
  ([(.bin .eq (.var 0) (.lit 1)), (.un .bnot (.bin .eq (.var 0) (.lit 0))), (.bin .eq (.var 6) (plcE (.var 2))), (.bin .eq (.var 5) (magE (.var 2))), (.bin .eq (.var 4) (plcE (.var 1))), (.bin .eq (.var 3) (magE (.var 1))), (.bin .le (.lit 0) (.var 0)), (.bin .le (.var 0) (.lit 6))], (.int .u64 (.ite (.bin .or (.bin .or (.bin .lt (.lit 9218868437227405312) (.bin .emod (.var 1) (.lit 9223372036854775808))) (.bin .lt (.lit 9218868437227405312) (.bin .emod (.var 2) (.lit 9223372036854775808)))) (.bin .and (.bin .and (.bin .eq (.bin .emod (.var 1) (.lit 9223372036854775808)) (.lit 9218868437227405312)) (.bin .eq (.bin .emod (.var 2) (.lit 9223372036854775808)) (.lit 9218868437227405312))) (.un .bnot (.bin .eq (.bin .le (.lit 9223372036854775808) (.var 1)) (.bin .lt (.var 2) (.lit 9223372036854775808)))))) (.lit 9221120237041090560) (.ite (.bin .eq (.bin .emod (.var 1) (.lit 9223372036854775808)) (.lit 9218868437227405312)) (.ite (.bin .le (.lit 9223372036854775808) (.var 1)) (.lit 18442240474082181120) (.lit 9218868437227405312)) (.ite (.bin .eq (.bin .emod (.var 2) (.lit 9223372036854775808)) (.lit 9218868437227405312)) (.ite (.bin .lt (.var 2) (.lit 9223372036854775808)) (.lit 18442240474082181120) (.lit 9218868437227405312)) (.fn 6 (.bin .add (.bin .mul (.var 3) (.lit 4096)) (.bin .add (.var 4) (.lit 2048))) (.bin .add (.bin .mul (.var 5) (.lit 4096)) (.bin .add (.var 6) (.lit 2048))) (.bin .add (.bin .mul (.bin .le (.lit 9223372036854775808) (.var 1)) (.lit 2)) (.bin .lt (.var 2) (.lit 9223372036854775808))))))))),
  ([(.bin .eq (.var 0) (.lit 2)), (.un .bnot (.bin .eq (.var 0) (.lit 1))), (.un .bnot (.bin .eq (.var 0) (.lit 0))), (.bin .eq (.var 6) (plcE (.var 2))), (.bin .eq (.var 5) (magE (.var 2))), (.bin .eq (.var 4) (plcE (.var 1))), (.bin .eq (.var 3) (magE (.var 1))), (.bin .le (.lit 0) (.var 0)), (.bin .le (.var 0) (.lit 6))], (.int .u64 (.ite (.bin .or (.bin .or (.bin .lt (.lit 9218868437227405312) (.bin .emod (.var 1) (.lit 9223372036854775808))) (.bin .lt (.lit 9218868437227405312) (.bin .emod (.var 2) (.lit 9223372036854775808)))) (.bin .or (.bin .and (.bin .eq (.bin .emod (.var 1) (.lit 9223372036854775808)) (.lit 9218868437227405312)) (.bin .and (.un .bnot (.bin .eq (.bin .emod (.var 2) (.lit 9223372036854775808)) (.lit 9218868437227405312))) (.bin .eq (.var 5) (.lit 0)))) (.bin .and (.bin .eq (.bin .emod (.var 2) (.lit 9223372036854775808)) (.lit 9218868437227405312)) (.bin .and (.un .bnot (.bin .eq (.bin .emod (.var 1) (.lit 9223372036854775808)) (.lit 9218868437227405312))) (.bin .eq (.var 3) (.lit 0)))))) (.lit 9221120237041090560) (.ite (.bin .or (.bin .eq (.bin .emod (.var 1) (.lit 9223372036854775808)) (.lit 9218868437227405312)) (.bin .eq (.bin .emod (.var 2) (.lit 9223372036854775808)) (.lit 9218868437227405312))) (.ite (.un .bnot (.bin .eq (.bin .le (.lit 9223372036854775808) (.var 1)) (.bin .le (.lit 9223372036854775808) (.var 2)))) (.lit 18442240474082181120) (.lit 9218868437227405312)) (.bin .add (.ite (.un .bnot (.bin .eq (.bin .le (.lit 9223372036854775808) (.var 1)) (.bin .le (.lit 9223372036854775808) (.var 2)))) (.lit 9223372036854775808) (.lit 0)) (.fn 4 (.bin .mul (.var 3) (.var 5)) (.bin .add (.var 4) (.var 6)) (.lit 0))))))),
  ([(.bin .eq (.var 0) (.lit 3)), (.un .bnot (.bin .eq (.var 0) (.lit 2))), (.un .bnot (.bin .eq (.var 0) (.lit 1))), (.un .bnot (.bin .eq (.var 0) (.lit 0))), (.bin .eq (.var 6) (plcE (.var 2))), (.bin .eq (.var 5) (magE (.var 2))), (.bin .eq (.var 4) (plcE (.var 1))), (.bin .eq (.var 3) (magE (.var 1))), (.bin .le (.lit 0) (.var 0)), (.bin .le (.var 0) (.lit 6))], (.int .u64 (.ite (.bin .or (.bin .or (.bin .lt (.lit 9218868437227405312) (.bin .emod (.var 1) (.lit 9223372036854775808))) (.bin .lt (.lit 9218868437227405312) (.bin .emod (.var 2) (.lit 9223372036854775808)))) (.bin .or (.bin .and (.bin .eq (.bin .emod (.var 1) (.lit 9223372036854775808)) (.lit 9218868437227405312)) (.bin .eq (.bin .emod (.var 2) (.lit 9223372036854775808)) (.lit 9218868437227405312))) (.bin .and (.bin .and (.un .bnot (.bin .eq (.bin .emod (.var 1) (.lit 9223372036854775808)) (.lit 9218868437227405312))) (.un .bnot (.bin .eq (.bin .emod (.var 2) (.lit 9223372036854775808)) (.lit 9218868437227405312)))) (.bin .and (.bin .eq (.var 3) (.lit 0)) (.bin .eq (.var 5) (.lit 0)))))) (.lit 9221120237041090560) (.ite (.bin .or (.bin .eq (.bin .emod (.var 1) (.lit 9223372036854775808)) (.lit 9218868437227405312)) (.bin .and (.un .bnot (.bin .eq (.bin .emod (.var 2) (.lit 9223372036854775808)) (.lit 9218868437227405312))) (.bin .eq (.var 5) (.lit 0)))) (.ite (.un .bnot (.bin .eq (.bin .le (.lit 9223372036854775808) (.var 1)) (.bin .le (.lit 9223372036854775808) (.var 2)))) (.lit 18442240474082181120) (.lit 9218868437227405312)) (.ite (.bin .or (.bin .eq (.bin .emod (.var 2) (.lit 9223372036854775808)) (.lit 9218868437227405312)) (.bin .eq (.var 3) (.lit 0))) (.ite (.un .bnot (.bin .eq (.bin .le (.lit 9223372036854775808) (.var 1)) (.bin .le (.lit 9223372036854775808) (.var 2)))) (.lit 9223372036854775808) (.lit 0)) (.bin .add (.ite (.un .bnot (.bin .eq (.bin .le (.lit 9223372036854775808) (.var 1)) (.bin .le (.lit 9223372036854775808) (.var 2)))) (.lit 9223372036854775808) (.lit 0)) (.fn 8 (.bin .add (.bin .mul (.var 3) (.lit 4096)) (.bin .add (.var 4) (.lit 2048))) (.bin .add (.bin .mul (.var 5) (.lit 4096)) (.bin .add (.var 6) (.lit 2048))) (.lit 0)))))))),
  ([(.bin .eq (.var 0) (.lit 4)), (.un .bnot (.bin .eq (.var 0) (.lit 3))), (.un .bnot (.bin .eq (.var 0) (.lit 2))), (.un .bnot (.bin .eq (.var 0) (.lit 1))), (.un .bnot (.bin .eq (.var 0) (.lit 0))), (.bin .eq (.var 6) (plcE (.var 2))), (.bin .eq (.var 5) (magE (.var 2))), (.bin .eq (.var 4) (plcE (.var 1))), (.bin .eq (.var 3) (magE (.var 1))), (.bin .le (.lit 0) (.var 0)), (.bin .le (.var 0) (.lit 6))], (.int .u64 (.ite (.bin .eq (.var 0) (.lit 5)) (.ite (.un .bnot (.bin .eq (.bin (.ford .f64) (.var 1) (.var 1)) (.lit 0))) (.lit 9221120237041090560) (.ite (.un .bnot (.bin .eq (.bin (.ford .f64) (.var 2) (.var 2)) (.lit 0))) (.lit 9221120237041090560) (.bin (.fpick false) (.var 1) (.var 2)))) (.ite (.un .bnot (.bin .eq (.bin (.ford .f64) (.var 1) (.var 1)) (.lit 0))) (.lit 9221120237041090560) (.ite (.un .bnot (.bin .eq (.bin (.ford .f64) (.var 2) (.var 2)) (.lit 0))) (.lit 9221120237041090560) (.bin (.fpick true) (.var 1) (.var 2))))))),
  ([(.bin .eq (.var 0) (.lit 5)), (.un .bnot (.bin .eq (.var 0) (.lit 4))), (.un .bnot (.bin .eq (.var 0) (.lit 3))), (.un .bnot (.bin .eq (.var 0) (.lit 2))), (.un .bnot (.bin .eq (.var 0) (.lit 1))), (.un .bnot (.bin .eq (.var 0) (.lit 0))), (.bin .eq (.var 6) (plcE (.var 2))), (.bin .eq (.var 5) (magE (.var 2))), (.bin .eq (.var 4) (plcE (.var 1))), (.bin .eq (.var 3) (magE (.var 1))), (.bin .le (.lit 0) (.var 0)), (.bin .le (.var 0) (.lit 6))], (.int .u64 (.ite (.bin .eq (.var 0) (.lit 5)) (.ite (.un .bnot (.bin .eq (.bin (.ford .f64) (.var 1) (.var 1)) (.lit 0))) (.lit 9221120237041090560) (.ite (.un .bnot (.bin .eq (.bin (.ford .f64) (.var 2) (.var 2)) (.lit 0))) (.lit 9221120237041090560) (.bin (.fpick false) (.var 1) (.var 2)))) (.ite (.un .bnot (.bin .eq (.bin (.ford .f64) (.var 1) (.var 1)) (.lit 0))) (.lit 9221120237041090560) (.ite (.un .bnot (.bin .eq (.bin (.ford .f64) (.var 2) (.var 2)) (.lit 0))) (.lit 9221120237041090560) (.bin (.fpick true) (.var 1) (.var 2))))))),
  ([(.un .bnot (.bin .eq (.var 0) (.lit 5))), (.un .bnot (.bin .eq (.var 0) (.lit 4))), (.un .bnot (.bin .eq (.var 0) (.lit 3))), (.un .bnot (.bin .eq (.var 0) (.lit 2))), (.un .bnot (.bin .eq (.var 0) (.lit 1))), (.un .bnot (.bin .eq (.var 0) (.lit 0))), (.bin .eq (.var 6) (plcE (.var 2))), (.bin .eq (.var 5) (magE (.var 2))), (.bin .eq (.var 4) (plcE (.var 1))), (.bin .eq (.var 3) (magE (.var 1))), (.bin .le (.lit 0) (.var 0)), (.bin .le (.var 0) (.lit 6))], (.int .u64 (.bin (.bits .or .u64) (.bin (.bits .andNot .u64) (.var 1) (.ite (.un .bnot (.un .bnot (.lit 1))) (.lit 9223372036854775808) (.lit 0))) (.bin (.bits .and .u64) (.var 2) (.ite (.un .bnot (.un .bnot (.lit 1))) (.lit 9223372036854775808) (.lit 0))))))]
set_option maxRecDepth 100000 in
theorem binDRan : runOfG Try.prog (orcs (nameO (gOracle [apartD])) (gOracle (gsD0 ++ [sumD, mulD, quoD, extrD]))) noLoops (bodies fns) [] 4000 binD = some binDR := by kernel_rfl
def refUnR : List Leaf := [
  ([(.bin .lt (.var 0) (.lit 153))], (.tup [(.int .i64 (.lit 0)), (.int .i64 (.lit 500))])),
  ([(.bin .lt (.lit 159) (.var 0)), (.bin .le (.lit 153) (.var 0))], (.tup [(.int .i64 (.lit 0)), (.int .i64 (.lit 500))])),
  ([(.bin .le (.var 0) (.lit 159)), (.bin .le (.lit 153) (.var 0))], (.tup [(.int .i64 (.un (.wrap .i64) (.ite (.bin .eq (.bin .add (.var 0) (.lit (-153))) (.lit 0)) (.bin (.bits .andNot .u64) (.un (.wrap .u64) (.var 1)) (.lit 9223372036854775808)) (.ite (.bin .eq (.bin .add (.var 0) (.lit (-153))) (.lit 1)) (.bin (.bits .xor .u64) (.un (.wrap .u64) (.var 1)) (.lit 9223372036854775808)) (.ite (.bin .eq (.bin .add (.var 0) (.lit (-153))) (.lit 2)) (.ite (.bin .eq (.un (.fwhole .up) (.un (.wrap .u64) (.var 1))) (.lit (-1))) (.lit 9221120237041090560) (.un (.fwhole .up) (.un (.wrap .u64) (.var 1)))) (.ite (.bin .eq (.bin .add (.var 0) (.lit (-153))) (.lit 3)) (.ite (.bin .eq (.un (.fwhole .down) (.un (.wrap .u64) (.var 1))) (.lit (-1))) (.lit 9221120237041090560) (.un (.fwhole .down) (.un (.wrap .u64) (.var 1)))) (.ite (.bin .eq (.bin .add (.var 0) (.lit (-153))) (.lit 4)) (.ite (.bin .eq (.un (.fwhole .zero) (.un (.wrap .u64) (.var 1))) (.lit (-1))) (.lit 9221120237041090560) (.un (.fwhole .zero) (.un (.wrap .u64) (.var 1)))) (.ite (.bin .eq (.bin .add (.var 0) (.lit (-153))) (.lit 5)) (.ite (.bin .eq (.un (.fwhole .even) (.un (.wrap .u64) (.var 1))) (.lit (-1))) (.lit 9221120237041090560) (.un (.fwhole .even) (.un (.wrap .u64) (.var 1)))) (.ite (.bin .eq (.un .fsqrt (.un (.wrap .u64) (.var 1))) (.lit (-1))) (.lit 9221120237041090560) (.un .fsqrt (.un (.wrap .u64) (.var 1)))))))))))), (.int .i64 (.lit 0))]))]
set_option maxRecDepth 100000 in
theorem refUnRan : runOf Try.prog (gOracle (gsD0 ++ [unD])) noLoops (bodies fns) [] 4000 refUnS.f refUnS.ks refUnS.pre = some refUnR := by kernel_rfl
def refBinR : List Leaf := [
  ([(.bin .le (.var 0) (.lit 102)), (.bin .le (.lit 97) (.var 0))], (.tup [(.int .i64 (.ite (.bin .eq (.bin .add (.var 0) (.lit (-97))) (.lit 0)) (.ite (.bin .eq (.bin (.ford .f64) (.un (.wrap .u64) (.var 1)) (.un (.wrap .u64) (.var 2))) (.lit 0)) (.lit 1) (.lit 0)) (.ite (.bin .eq (.bin .add (.var 0) (.lit (-97))) (.lit 1)) (.ite (.un .bnot (.bin .eq (.bin (.ford .f64) (.un (.wrap .u64) (.var 1)) (.un (.wrap .u64) (.var 2))) (.lit 0))) (.lit 1) (.lit 0)) (.ite (.bin .eq (.bin .add (.var 0) (.lit (-97))) (.lit 2)) (.ite (.bin .eq (.bin (.ford .f64) (.un (.wrap .u64) (.var 1)) (.un (.wrap .u64) (.var 2))) (.lit 1)) (.lit 1) (.lit 0)) (.ite (.bin .eq (.bin .add (.var 0) (.lit (-97))) (.lit 3)) (.ite (.bin .eq (.bin (.ford .f64) (.un (.wrap .u64) (.var 1)) (.un (.wrap .u64) (.var 2))) (.lit 2)) (.lit 1) (.lit 0)) (.ite (.bin .eq (.bin .add (.var 0) (.lit (-97))) (.lit 4)) (.ite (.bin .le (.bin (.ford .f64) (.un (.wrap .u64) (.var 1)) (.un (.wrap .u64) (.var 2))) (.lit 1)) (.lit 1) (.lit 0)) (.ite (.bin .or (.bin .eq (.bin (.ford .f64) (.un (.wrap .u64) (.var 1)) (.un (.wrap .u64) (.var 2))) (.lit 2)) (.bin .eq (.bin (.ford .f64) (.un (.wrap .u64) (.var 1)) (.un (.wrap .u64) (.var 2))) (.lit 0))) (.lit 1) (.lit 0)))))))), (.int .i64 (.lit 0))])),
  ([(.bin .le (.var 0) (.lit 166)), (.bin .le (.lit 160) (.var 0)), (.bin .lt (.lit 102) (.var 0)), (.bin .le (.lit 97) (.var 0))], (.tup [(.int .i64 (.un (.wrap .i64) (.ite (.bin .eq (.bin .add (.var 0) (.lit (-160))) (.lit 0)) (.ite (.bin .eq (.bin (.far .add .f64) (.un (.wrap .u64) (.var 1)) (.un (.wrap .u64) (.var 2))) (.lit (-1))) (.lit 9221120237041090560) (.bin (.far .add .f64) (.un (.wrap .u64) (.var 1)) (.un (.wrap .u64) (.var 2)))) (.ite (.bin .eq (.bin .add (.var 0) (.lit (-160))) (.lit 1)) (.ite (.bin .eq (.bin (.far .sub .f64) (.un (.wrap .u64) (.var 1)) (.un (.wrap .u64) (.var 2))) (.lit (-1))) (.lit 9221120237041090560) (.bin (.far .sub .f64) (.un (.wrap .u64) (.var 1)) (.un (.wrap .u64) (.var 2)))) (.ite (.bin .eq (.bin .add (.var 0) (.lit (-160))) (.lit 2)) (.ite (.bin .eq (.bin (.far .mul .f64) (.un (.wrap .u64) (.var 1)) (.un (.wrap .u64) (.var 2))) (.lit (-1))) (.lit 9221120237041090560) (.bin (.far .mul .f64) (.un (.wrap .u64) (.var 1)) (.un (.wrap .u64) (.var 2)))) (.ite (.bin .eq (.bin .add (.var 0) (.lit (-160))) (.lit 3)) (.ite (.bin .eq (.bin (.far .quo .f64) (.un (.wrap .u64) (.var 1)) (.un (.wrap .u64) (.var 2))) (.lit (-1))) (.lit 9221120237041090560) (.bin (.far .quo .f64) (.un (.wrap .u64) (.var 1)) (.un (.wrap .u64) (.var 2)))) (.ite (.bin .eq (.bin .add (.var 0) (.lit (-160))) (.lit 4)) (.ite (.un .bnot (.bin .eq (.bin (.ford .f64) (.un (.wrap .u64) (.var 1)) (.un (.wrap .u64) (.var 1))) (.lit 0))) (.lit 9221120237041090560) (.ite (.un .bnot (.bin .eq (.bin (.ford .f64) (.un (.wrap .u64) (.var 2)) (.un (.wrap .u64) (.var 2))) (.lit 0))) (.lit 9221120237041090560) (.bin (.fpick true) (.un (.wrap .u64) (.var 1)) (.un (.wrap .u64) (.var 2))))) (.ite (.bin .eq (.bin .add (.var 0) (.lit (-160))) (.lit 5)) (.ite (.un .bnot (.bin .eq (.bin (.ford .f64) (.un (.wrap .u64) (.var 1)) (.un (.wrap .u64) (.var 1))) (.lit 0))) (.lit 9221120237041090560) (.ite (.un .bnot (.bin .eq (.bin (.ford .f64) (.un (.wrap .u64) (.var 2)) (.un (.wrap .u64) (.var 2))) (.lit 0))) (.lit 9221120237041090560) (.bin (.fpick false) (.un (.wrap .u64) (.var 1)) (.un (.wrap .u64) (.var 2))))) (.bin (.bits .or .u64) (.bin (.bits .andNot .u64) (.un (.wrap .u64) (.var 1)) (.lit 9223372036854775808)) (.bin (.bits .and .u64) (.un (.wrap .u64) (.var 2)) (.lit 9223372036854775808))))))))))), (.int .i64 (.lit 0))])),
  ([(.bin .lt (.lit 166) (.var 0)), (.bin .le (.lit 160) (.var 0)), (.bin .lt (.lit 102) (.var 0)), (.bin .le (.lit 97) (.var 0))], (.tup [(.int .i64 (.lit 0)), (.int .i64 (.lit 500))])),
  ([(.bin .lt (.var 0) (.lit 160)), (.bin .lt (.lit 102) (.var 0)), (.bin .le (.lit 97) (.var 0))], (.tup [(.int .i64 (.lit 0)), (.int .i64 (.lit 500))])),
  ([(.bin .lt (.var 0) (.lit 97))], (.tup [(.int .i64 (.lit 0)), (.int .i64 (.lit 500))]))]
set_option maxRecDepth 100000 in
theorem refBinRan : runOf Try.prog (gOracle (gsD0 ++ [compD, binD])) noLoops (bodies fns) [] 4000 refBinS.f refBinS.ks refBinS.pre = some refBinR := by kernel_rfl
end Go.Proofs.Ytnodelimomljbaa.RunRefE

/- The reference's operations of one and two doubles in numbers. No condition. -/
namespace Go.Proofs.Ytnodelimomljbaa.PlainRefE
open Go Go.Sx Go.Sx.Flt Go.Sx.Ref Go.Proofs.Ytnodelimomljbaa.RunRefE Go.Proofs.Ytnodelimomljbaa.PlainRefA Go.Proofs.Ytnodelimomljbaa.PlainRefB Go.Proofs.Ytnodelimomljbaa.PlainRefC Go.Proofs.Ytnodelimomljbaa.PlainRefD
set_option linter.unusedSimpArgs false
set_option linter.unusedVariables false
set_option maxHeartbeats 2000000 in
theorem extr_plain (u : Nat → Int) (hk : KindOk u 0 extrD.sp.ks) (hp : pcOk ⟨u, fnG⟩ extrD.sp.pre) : Keeps ⟨u, fnG⟩ extrD.sp.res extrDR := by
  have s0 := bool_of hk.1
  have hx : 0 ≤ u 1 ∧ u 1 ≤ 18446744073709551615 := of_kind hk.2.1
  have hy : 0 ≤ u 2 ∧ u 2 ≤ 18446744073709551615 := of_kind hk.2.2.1
  have F := pick_facts hx hy
  have n1 := ford_self hx
  have n2 := ford_self hy
  simp only [magE, plcE, rE, B52, I64, M63, extrD, extrDR, extrE, pickU, nanU, nan64', no, un, Keeps, chain, unOne, List.length, Nat.beq, SameL, v, bi, den_iteP, den_ltP, den_leP, E.prop]
  simp only [E.den, Bi.den, Un.den, nn01 s0]
  generalize fordI .f64 (u 1) (u 1) = D1 at n1 ⊢
  generalize fordI .f64 (u 2) (u 2) = D2 at n2 ⊢
  generalize fpickI true (u 1) (u 2) = T at F ⊢
  generalize fpickI false (u 1) (u 2) = G at F ⊢
  generalize bitI .or .u64 (u 1) (u 2) = O at F ⊢
  generalize bitI .and .u64 (u 1) (u 2) = A at F ⊢
  generalize iteP (9223372036854775808 ≤ u 1) (9223372036854775808 - u 1) (u 1) = a at F ⊢
  generalize iteP (9223372036854775808 ≤ u 2) (9223372036854775808 - u 2) (u 2) = b at F ⊢
  have c1 : (a < b ∧ iteP (a < b) 1 0 = 1) ∨ (¬ a < b ∧ iteP (a < b) 1 0 = 0) := by
    by_cases h : a < b
    · exact .inl ⟨h, iteP_pos h _ _⟩
    · exact .inr ⟨h, iteP_neg h _ _⟩
  generalize iteP (a < b) 1 0 = c at c1 ⊢
  repeat' apply And.intro
  all_goals first | trivial | (intros; exact ⟨trivial, iteP_case (fun _ => iteP_case (fun _ => by omega) fun _ => iteP_case (fun _ => by omega) fun _ => by omega) (fun _ => iteP_case (fun _ => by omega) fun _ => iteP_case (fun _ => by omega) fun _ => by omega), trivial⟩)
theorem extr_bd (u : Nat → Int) (hk : KindOk u 0 extrD.sp.ks) (hp : pcOk ⟨u, fnG⟩ extrD.sp.pre) : extrD.sp.bds.ok ⟨u, fnG⟩ := by
  have hx : 0 ≤ u 1 ∧ u 1 ≤ 18446744073709551615 := of_kind hk.2.1
  have hy : 0 ≤ u 2 ∧ u 2 ≤ 18446744073709551615 := of_kind hk.2.2.1
  have n1 := ford_self hx
  have n2 := ford_self hy
  refine bd_of ?_
  simp only [extrE, pickU, nanU, nan64', no, un, v, bi, den_iteP, E.prop]
  simp only [E.den, Bi.den, Un.den]
  exact iteP_in (fun _ => iteP_in (fun _ => by omega) fun _ => iteP_in (fun _ => by omega) fun _ => pick_in _ hx hy (by omega) (by omega)) (fun _ => iteP_in (fun _ => by omega) fun _ => iteP_in (fun _ => by omega) fun _ => pick_in _ hx hy (by omega) (by omega))
theorem one_true : iteP (¬ ¬ (1 : Int) ≠ 0) 9223372036854775808 0 = 9223372036854775808 := iteP_pos (by omega) _ _
set_option maxHeartbeats 2000000 in
theorem un_plain (u : Nat → Int) (hk : KindOk u 0 unD.sp.ks) (hp : pcOk ⟨u, fnG⟩ unD.sp.pre) : Keeps ⟨u, fnG⟩ unD.sp.res unDR := by
  have hx : 0 ≤ u 1 ∧ u 1 ≤ 18446744073709551615 := of_kind hk.2.1
  simp only [magE, plcE, rE, B52, I64, M63, unD, unDR, unE, isK, canU, nan64', M63, no, un, Keeps, chain, unOne, List.length, Nat.beq, SameL, v, bi, den_iteP, den_bitsP, E.prop]
  simp only [E.den, Bi.den, Un.den, one_true]
  refine ⟨?_, ?_, ?_, ?_, trivial⟩
  · intro p1 p2 h0
    exact ⟨trivial, iteP_of_pos h0 rfl, trivial⟩
  · intro p1 p2 h0 h1
    exact ⟨trivial, iteP_of_neg h0 (iteP_of_pos h1 rfl), trivial⟩
  · intro p1 p2 h0 h1 h6 a2 a3
    exact ⟨trivial, iteP_of_neg h0 (iteP_of_neg h1 (iteP_of_neg (by omega) (iteP_of_neg (by omega) (iteP_of_neg (by omega) (iteP_of_neg (by omega) (root_code (word_of hx a2 a3))))))), trivial⟩
  · intro p1 p2 h0 h1 h6
    refine ⟨trivial, iteP_of_neg h0 (iteP_of_neg h1 ?_), trivial⟩
    exact iteP_case (fun h => iteP_casel (fun _ => rfl) (fun g => by omega)) fun h => iteP_case (fun h => iteP_casel (fun _ => by omega) fun g => iteP_casel (fun _ => rfl) (fun g => by omega)) fun h => iteP_case (fun h => iteP_casel (fun _ => by omega) fun g => iteP_casel (fun _ => by omega) fun g => iteP_casel (fun _ => rfl) (fun g => by omega)) fun h => iteP_case (fun h => iteP_casel (fun _ => by omega) fun g => iteP_casel (fun _ => by omega) fun g => iteP_casel (fun _ => by omega) fun g => rfl) fun h => by omega
theorem bits_in (op : BinOp) (x y : Int) : 0 ≤ bitI op .u64 x y ∧ bitI op .u64 x y ≤ 18446744073709551615 := by
  unfold bitI
  simp only [u64_wr]
  omega
theorem fsqrt_in {x : Int} (hx : 0 ≤ x ∧ x ≤ 18446744073709551615) : fsqrtI x = -1 ∨ (0 ≤ fsqrtI x ∧ fsqrtI x ≤ 18446744073709551615) := by
  rcases Int.lt_or_le 9218868437227405312 (x % 9223372036854775808) with h | h
  · exact .inl (fsqrt_nan (x := x) hx (by rw [mgD hx]; exact h))
  · rw [far_root (x := x) hx (by rw [mgD hx]; exact h)]
    split
    · exact .inl rfl
    · refine .inr ?_
      split
      · rw [kI64]; omega
      · split
        · rw [wID]; split <;> omega
        · have e : ∀ m i, (0 : Int) ≤ (rootC Ieee.double m i : Nat) ∧ ((rootC Ieee.double m i : Nat) : Int) ≤ 9218868437227405312 := fun m i => by unfold rootC; exact rung_in _ _
          have := e (mO .f64 x) (pO .f64 x)
          omega
theorem un_bd (u : Nat → Int) (hk : KindOk u 0 unD.sp.ks) (hp : pcOk ⟨u, fnG⟩ unD.sp.pre) : unD.sp.bds.ok ⟨u, fnG⟩ := by
  have hx : 0 ≤ u 1 ∧ u 1 ≤ 18446744073709551615 := of_kind hk.2.1
  refine bd_of ?_
  simp only [unE, isK, canU, nan64', M63, un, v, bi, den_iteP, den_bitsP, E.prop]
  simp only [E.den, Bi.den, Un.den]
  exact iteP_in (fun _ => bits_in _ _ _) fun _ => iteP_in (fun _ => bits_in _ _ _) fun _ => iteP_in (fun _ => can_bd (fwhole_in _ hx)) fun _ => iteP_in (fun _ => can_bd (fwhole_in _ hx)) fun _ => iteP_in (fun _ => can_bd (fwhole_in _ hx)) fun _ => iteP_in (fun _ => can_bd (fwhole_in _ hx)) fun _ => can_bd (fsqrt_in hx)
theorem xb (x : Int) : (sO .f64 x ^^ false) = true ↔ 9223372036854775808 ≤ x := by rw [Bool.xor_false]; exact sOD x
theorem xt (x : Int) : (sO .f64 x ^^ true) = true ↔ x < 9223372036854775808 := by
  have h := sOD x
  rw [Bool.xor_true]
  by_cases g : 9223372036854775808 ≤ x
  · rw [h.2 g]; simp; omega
  · rw [Bool.eq_false_iff.2 (fun k => g (h.1 k))]; simp; omega
set_option maxHeartbeats 2000000 in
theorem bin_plain (u : Nat → Int) (hk : KindOk u 0 binD.sp.ks) (hp : pcOk ⟨u, fnG⟩ binD.sp.pre) : Keeps ⟨u, fnG⟩ binD.sp.res binDR := by
  have hx : 0 ≤ u 1 ∧ u 1 ≤ 18446744073709551615 := of_kind hk.2.1
  have hy : 0 ≤ u 2 ∧ u 2 ≤ 18446744073709551615 := of_kind hk.2.2.1
  have dfn : ∀ (f : Nat) (a b c : E), (E.fn f a b c).den ⟨u, fnG⟩ = fnG f (a.den ⟨u, fnG⟩) (b.den ⟨u, fnG⟩) (c.den ⟨u, fnG⟩) := fun _ _ _ _ => rfl
  simp only [magE, plcE, rE, B52, I64, M63, binD, binDR, binE, isK, farU, pickU, nanU, canU, nan64', M63, no, un, Keeps, chain, unOne, List.length, Nat.beq, SameL, v, bi, den_iteP, den_bitsP, den_addP, den_mulP, den_ltP, den_leP, dfn, E.prop]
  simp only [E.den, Bi.den, Un.den, one_true]
  have add : ∀ (_ : u 3 = _) (_ : u 4 = _) (_ : u 5 = _) (_ : u 6 = _), _ := fun a b c d => add_code (N := 9221120237041090560) false (word_of hx a b) (word_of hy c d) rfl rfl (xb (u 2))
  have sub : ∀ (_ : u 3 = _) (_ : u 4 = _) (_ : u 5 = _) (_ : u 6 = _), _ := fun a b c d => add_code (N := 9221120237041090560) true (word_of hx a b) (word_of hy c d) rfl rfl (xt (u 2))
  have mul : ∀ (_ : u 3 = _) (_ : u 4 = _) (_ : u 5 = _) (_ : u 6 = _), _ := fun a b c d => mul_code (N := 9221120237041090560) (word_of hx a b) (word_of hy c d)
  have quo : ∀ (_ : u 3 = _) (_ : u 4 = _) (_ : u 5 = _) (_ : u 6 = _), _ := fun a b c d => quo_code (N := 9221120237041090560) (word_of hx a b) (word_of hy c d)
  refine ⟨?_, ?_, ?_, ?_, ?_, ?_, ?_, ?_, ?_, ?_, ?_, ?_, ?_, ?_, trivial⟩
  · intro p1 p2 a3 a4 a5 a6 h0
    exact ⟨trivial, iteP_of_pos h0 (add a3 a4 a5 a6), trivial⟩
  · intro p1 p2 a3 a4 a5 a6 h0 h1
    exact ⟨trivial, iteP_of_neg h0 (iteP_of_pos h1 (sub a3 a4 a5 a6)), trivial⟩
  · intro p1 p2 a3 a4 a5 a6 h0 h1 h2
    exact ⟨trivial, iteP_of_neg h0 (iteP_of_neg h1 (iteP_of_pos h2 (mul a3 a4 a5 a6))), trivial⟩
  · intro p1 p2 a3 a4 a5 a6 h0 h1 h2 h3
    exact ⟨trivial, iteP_of_neg h0 (iteP_of_neg h1 (iteP_of_neg h2 (iteP_of_pos h3 (quo a3 a4 a5 a6)))), trivial⟩
  · intro p1 p2 a3 a4 a5 a6 h0 h1 h2 h3 h4
    exact ⟨trivial, iteP_of_neg h0 (iteP_of_neg h1 (iteP_of_neg h2 (iteP_of_neg h3 (iteP_of_pos h4 (iteP_neg (by omega) _ _))))), trivial⟩
  · intro p1 p2 a3 a4 a5 a6 h0 h1 h2 h3 h4 h5
    exact ⟨trivial, iteP_of_neg h0 (iteP_of_neg h1 (iteP_of_neg h2 (iteP_of_neg h3 (iteP_of_neg h4 (iteP_of_pos h5 (iteP_pos (by omega) _ _)))))), trivial⟩
  · intro p1 p2 a3 a4 a5 a6 h0 h1 h2 h3 h4 h5
    exact ⟨trivial, iteP_of_neg h0 (iteP_of_neg h1 (iteP_of_neg h2 (iteP_of_neg h3 (iteP_of_neg h4 (iteP_of_neg h5 rfl))))), trivial⟩
  · intro p1 p2 a3 a4 a5 a6 h0
    exact ⟨trivial, iteP_of_pos h0 (add a3 a4 a5 a6), trivial⟩
  · intro p1 p2 a3 a4 a5 a6 h0 h1
    exact ⟨trivial, iteP_of_neg h0 (iteP_of_pos h1 (sub a3 a4 a5 a6)), trivial⟩
  · intro p1 p2 a3 a4 a5 a6 h0 h1 h2
    exact ⟨trivial, iteP_of_neg h0 (iteP_of_neg h1 (iteP_of_pos h2 (mul a3 a4 a5 a6))), trivial⟩
  · intro p1 p2 a3 a4 a5 a6 h0 h1 h2 h3
    exact ⟨trivial, iteP_of_neg h0 (iteP_of_neg h1 (iteP_of_neg h2 (iteP_of_pos h3 (quo a3 a4 a5 a6)))), trivial⟩
  · intro p1 p2 a3 a4 a5 a6 h0 h1 h2 h3 h4
    exact ⟨trivial, iteP_of_neg h0 (iteP_of_neg h1 (iteP_of_neg h2 (iteP_of_neg h3 (iteP_of_pos h4 (iteP_neg (by omega) _ _))))), trivial⟩
  · intro p1 p2 a3 a4 a5 a6 h0 h1 h2 h3 h4 h5
    exact ⟨trivial, iteP_of_neg h0 (iteP_of_neg h1 (iteP_of_neg h2 (iteP_of_neg h3 (iteP_of_neg h4 (iteP_of_pos h5 (iteP_pos (by omega) _ _)))))), trivial⟩
  · intro p1 p2 a3 a4 a5 a6 h0 h1 h2 h3 h4 h5
    exact ⟨trivial, iteP_of_neg h0 (iteP_of_neg h1 (iteP_of_neg h2 (iteP_of_neg h3 (iteP_of_neg h4 (iteP_of_neg h5 rfl))))), trivial⟩
theorem far_in (op : BinOp) (x y : Int) : farI op .f64 x y = -1 ∨ (0 ≤ farI op .f64 x y ∧ farI op .f64 x y ≤ 18446744073709551615) := by
  by_cases h : farI op .f64 x y = -1
  · exact .inl h
  · exact .inr (far_good h).1
theorem bin_bd (u : Nat → Int) (hk : KindOk u 0 binD.sp.ks) (hp : pcOk ⟨u, fnG⟩ binD.sp.pre) : binD.sp.bds.ok ⟨u, fnG⟩ := by
  have hx : 0 ≤ u 1 ∧ u 1 ≤ 18446744073709551615 := of_kind hk.2.1
  have hy : 0 ≤ u 2 ∧ u 2 ≤ 18446744073709551615 := of_kind hk.2.2.1
  have n1 := ford_self hx
  have n2 := ford_self hy
  have fin : ∀ op, farI op .f64 (u 1) (u 2) = -1 ∨ (0 ≤ farI op .f64 (u 1) (u 2) ∧ farI op .f64 (u 1) (u 2) ≤ 18446744073709551615) := fun op => far_in op (u 1) (u 2)
  refine bd_of ?_
  simp only [binE, isK, farU, pickU, nanU, canU, nan64', M63, no, un, v, bi, den_iteP, den_bitsP, E.prop]
  simp only [E.den, Bi.den, Un.den]
  exact iteP_in (fun _ => can_bd (fin _)) fun _ => iteP_in (fun _ => can_bd (fin _)) fun _ => iteP_in (fun _ => can_bd (fin _)) fun _ => iteP_in (fun _ => can_bd (fin _)) fun _ => iteP_in (fun _ => iteP_in (fun _ => by omega) fun _ => iteP_in (fun _ => by omega) fun _ => pick_in _ hx hy (by omega) (by omega)) fun _ =>
    iteP_in (fun _ => iteP_in (fun _ => by omega) fun _ => iteP_in (fun _ => by omega) fun _ => pick_in _ hx hy (by omega) (by omega)) fun _ => bits_in _ _ _
end Go.Proofs.Ytnodelimomljbaa.PlainRefE

/- The ways of the code through numbers, and that the code takes no other. No condition. -/
namespace Go.Proofs.Ytnodelimomljbaa.RunOp64
open Go Go.Sx Go.Sx.Flt

def unR : List Leaf := [
  ([(.bin .eq (.bin .add (.var 0) (.lit (-153))) (.lit 0))], (.tup [(.int .i64 (.bin (.bits .andNot .i64) (.var 1) (.lit (-9223372036854775808)))), (.int .i64 (.lit 0))])),
  ([(.bin .eq (.un (.wrap .i64) (.bin .add (.var 0) (.lit (-153)))) (.lit 1)), (.un .bnot (.bin .eq (.bin .add (.var 0) (.lit (-153))) (.lit 0)))], (.tup [(.int .i64 (.bin (.bits .xor .i64) (.var 1) (.lit (-9223372036854775808)))), (.int .i64 (.lit 0))])),
  ([(.un .bnot (.bin .eq (.un (.fwhole .up) (.un (.wrap .u64) (.var 1))) (.lit (-1)))), (.bin .eq (.un (.wrap .i64) (.bin .add (.var 0) (.lit (-153)))) (.lit 2)), (.un .bnot (.bin .eq (.un (.wrap .i64) (.bin .add (.var 0) (.lit (-153)))) (.lit 1))), (.un .bnot (.bin .eq (.bin .add (.var 0) (.lit (-153))) (.lit 0)))], (.tup [(.int .i64 (.un (.wrap .i64) (.un (.fwhole .up) (.un (.wrap .u64) (.var 1))))), (.int .i64 (.lit 0))])),
  ([(.bin .eq (.un (.fwhole .up) (.un (.wrap .u64) (.var 1))) (.lit (-1))), (.bin .eq (.un (.wrap .i64) (.bin .add (.var 0) (.lit (-153)))) (.lit 2)), (.un .bnot (.bin .eq (.un (.wrap .i64) (.bin .add (.var 0) (.lit (-153)))) (.lit 1))), (.un .bnot (.bin .eq (.bin .add (.var 0) (.lit (-153))) (.lit 0)))], (.tup [(.int .i64 (.lit 9221120237041090560)), (.int .i64 (.lit 0))])),
  ([(.un .bnot (.bin .eq (.un (.fwhole .down) (.un (.wrap .u64) (.var 1))) (.lit (-1)))), (.bin .eq (.un (.wrap .i64) (.bin .add (.var 0) (.lit (-153)))) (.lit 3)), (.un .bnot (.bin .eq (.un (.wrap .i64) (.bin .add (.var 0) (.lit (-153)))) (.lit 2))), (.un .bnot (.bin .eq (.un (.wrap .i64) (.bin .add (.var 0) (.lit (-153)))) (.lit 1))), (.un .bnot (.bin .eq (.bin .add (.var 0) (.lit (-153))) (.lit 0)))], (.tup [(.int .i64 (.un (.wrap .i64) (.un (.fwhole .down) (.un (.wrap .u64) (.var 1))))), (.int .i64 (.lit 0))])),
  ([(.bin .eq (.un (.fwhole .down) (.un (.wrap .u64) (.var 1))) (.lit (-1))), (.bin .eq (.un (.wrap .i64) (.bin .add (.var 0) (.lit (-153)))) (.lit 3)), (.un .bnot (.bin .eq (.un (.wrap .i64) (.bin .add (.var 0) (.lit (-153)))) (.lit 2))), (.un .bnot (.bin .eq (.un (.wrap .i64) (.bin .add (.var 0) (.lit (-153)))) (.lit 1))), (.un .bnot (.bin .eq (.bin .add (.var 0) (.lit (-153))) (.lit 0)))], (.tup [(.int .i64 (.lit 9221120237041090560)), (.int .i64 (.lit 0))])),
  ([(.un .bnot (.bin .eq (.un (.fwhole .zero) (.un (.wrap .u64) (.var 1))) (.lit (-1)))), (.bin .eq (.un (.wrap .i64) (.bin .add (.var 0) (.lit (-153)))) (.lit 4)), (.un .bnot (.bin .eq (.un (.wrap .i64) (.bin .add (.var 0) (.lit (-153)))) (.lit 3))), (.un .bnot (.bin .eq (.un (.wrap .i64) (.bin .add (.var 0) (.lit (-153)))) (.lit 2))), (.un .bnot (.bin .eq (.un (.wrap .i64) (.bin .add (.var 0) (.lit (-153)))) (.lit 1))), (.un .bnot (.bin .eq (.bin .add (.var 0) (.lit (-153))) (.lit 0)))], (.tup [(.int .i64 (.un (.wrap .i64) (.un (.fwhole .zero) (.un (.wrap .u64) (.var 1))))), (.int .i64 (.lit 0))])),
  ([(.bin .eq (.un (.fwhole .zero) (.un (.wrap .u64) (.var 1))) (.lit (-1))), (.bin .eq (.un (.wrap .i64) (.bin .add (.var 0) (.lit (-153)))) (.lit 4)), (.un .bnot (.bin .eq (.un (.wrap .i64) (.bin .add (.var 0) (.lit (-153)))) (.lit 3))), (.un .bnot (.bin .eq (.un (.wrap .i64) (.bin .add (.var 0) (.lit (-153)))) (.lit 2))), (.un .bnot (.bin .eq (.un (.wrap .i64) (.bin .add (.var 0) (.lit (-153)))) (.lit 1))), (.un .bnot (.bin .eq (.bin .add (.var 0) (.lit (-153))) (.lit 0)))], (.tup [(.int .i64 (.lit 9221120237041090560)), (.int .i64 (.lit 0))])),
  ([(.un .bnot (.bin .eq (.un (.fwhole .even) (.un (.wrap .u64) (.var 1))) (.lit (-1)))), (.bin .eq (.un (.wrap .i64) (.bin .add (.var 0) (.lit (-153)))) (.lit 5)), (.un .bnot (.bin .eq (.un (.wrap .i64) (.bin .add (.var 0) (.lit (-153)))) (.lit 4))), (.un .bnot (.bin .eq (.un (.wrap .i64) (.bin .add (.var 0) (.lit (-153)))) (.lit 3))), (.un .bnot (.bin .eq (.un (.wrap .i64) (.bin .add (.var 0) (.lit (-153)))) (.lit 2))), (.un .bnot (.bin .eq (.un (.wrap .i64) (.bin .add (.var 0) (.lit (-153)))) (.lit 1))), (.un .bnot (.bin .eq (.bin .add (.var 0) (.lit (-153))) (.lit 0)))], (.tup [(.int .i64 (.un (.wrap .i64) (.un (.fwhole .even) (.un (.wrap .u64) (.var 1))))), (.int .i64 (.lit 0))])),
  ([(.bin .eq (.un (.fwhole .even) (.un (.wrap .u64) (.var 1))) (.lit (-1))), (.bin .eq (.un (.wrap .i64) (.bin .add (.var 0) (.lit (-153)))) (.lit 5)), (.un .bnot (.bin .eq (.un (.wrap .i64) (.bin .add (.var 0) (.lit (-153)))) (.lit 4))), (.un .bnot (.bin .eq (.un (.wrap .i64) (.bin .add (.var 0) (.lit (-153)))) (.lit 3))), (.un .bnot (.bin .eq (.un (.wrap .i64) (.bin .add (.var 0) (.lit (-153)))) (.lit 2))), (.un .bnot (.bin .eq (.un (.wrap .i64) (.bin .add (.var 0) (.lit (-153)))) (.lit 1))), (.un .bnot (.bin .eq (.bin .add (.var 0) (.lit (-153))) (.lit 0)))], (.tup [(.int .i64 (.lit 9221120237041090560)), (.int .i64 (.lit 0))])),
  ([(.un .bnot (.bin .eq (.un .fsqrt (.un (.wrap .u64) (.var 1))) (.lit (-1)))), (.bin .eq (.un (.wrap .i64) (.bin .add (.var 0) (.lit (-153)))) (.lit 6)), (.un .bnot (.bin .eq (.un (.wrap .i64) (.bin .add (.var 0) (.lit (-153)))) (.lit 5))), (.un .bnot (.bin .eq (.un (.wrap .i64) (.bin .add (.var 0) (.lit (-153)))) (.lit 4))), (.un .bnot (.bin .eq (.un (.wrap .i64) (.bin .add (.var 0) (.lit (-153)))) (.lit 3))), (.un .bnot (.bin .eq (.un (.wrap .i64) (.bin .add (.var 0) (.lit (-153)))) (.lit 2))), (.un .bnot (.bin .eq (.un (.wrap .i64) (.bin .add (.var 0) (.lit (-153)))) (.lit 1))), (.un .bnot (.bin .eq (.bin .add (.var 0) (.lit (-153))) (.lit 0)))], (.tup [(.int .i64 (.un (.wrap .i64) (.un .fsqrt (.un (.wrap .u64) (.var 1))))), (.int .i64 (.lit 0))])),
  ([(.bin .eq (.un .fsqrt (.un (.wrap .u64) (.var 1))) (.lit (-1))), (.bin .eq (.un (.wrap .i64) (.bin .add (.var 0) (.lit (-153)))) (.lit 6)), (.un .bnot (.bin .eq (.un (.wrap .i64) (.bin .add (.var 0) (.lit (-153)))) (.lit 5))), (.un .bnot (.bin .eq (.un (.wrap .i64) (.bin .add (.var 0) (.lit (-153)))) (.lit 4))), (.un .bnot (.bin .eq (.un (.wrap .i64) (.bin .add (.var 0) (.lit (-153)))) (.lit 3))), (.un .bnot (.bin .eq (.un (.wrap .i64) (.bin .add (.var 0) (.lit (-153)))) (.lit 2))), (.un .bnot (.bin .eq (.un (.wrap .i64) (.bin .add (.var 0) (.lit (-153)))) (.lit 1))), (.un .bnot (.bin .eq (.bin .add (.var 0) (.lit (-153))) (.lit 0)))], (.tup [(.int .i64 (.lit 9221120237041090560)), (.int .i64 (.lit 0))])),
  ([(.un .bnot (.bin .eq (.un (.wrap .i64) (.bin .add (.var 0) (.lit (-153)))) (.lit 6))), (.un .bnot (.bin .eq (.un (.wrap .i64) (.bin .add (.var 0) (.lit (-153)))) (.lit 5))), (.un .bnot (.bin .eq (.un (.wrap .i64) (.bin .add (.var 0) (.lit (-153)))) (.lit 4))), (.un .bnot (.bin .eq (.un (.wrap .i64) (.bin .add (.var 0) (.lit (-153)))) (.lit 3))), (.un .bnot (.bin .eq (.un (.wrap .i64) (.bin .add (.var 0) (.lit (-153)))) (.lit 2))), (.un .bnot (.bin .eq (.un (.wrap .i64) (.bin .add (.var 0) (.lit (-153)))) (.lit 1))), (.un .bnot (.bin .eq (.bin .add (.var 0) (.lit (-153))) (.lit 0)))], (.tup [(.int .i64 (.lit 0)), (.int .i64 (.lit 500))]))]
set_option maxRecDepth 100000 in
theorem unRan : runOf Try.prog (xOracle xts) noLoops (bodies fns) [] 4000 unS64.f unS64.ks unS64.pre = some unR := by kernel_rfl
def binR : List Leaf := [
  ([(.bin .eq (.bin (.ford .f64) (.un (.wrap .u64) (.var 1)) (.un (.wrap .u64) (.var 2))) (.lit 0)), (.bin .eq (.bin .add (.var 0) (.lit (-97))) (.lit 0)), (.bin .le (.var 0) (.lit 102)), (.bin .le (.lit 97) (.var 0))], (.tup [(.int .i64 (.lit 1)), (.int .i64 (.lit 0))])),
  ([(.un .bnot (.bin .eq (.bin (.ford .f64) (.un (.wrap .u64) (.var 1)) (.un (.wrap .u64) (.var 2))) (.lit 0))), (.bin .eq (.bin .add (.var 0) (.lit (-97))) (.lit 0)), (.bin .le (.var 0) (.lit 102)), (.bin .le (.lit 97) (.var 0))], (.tup [(.int .i64 (.lit 0)), (.int .i64 (.lit 0))])),
  ([(.un .bnot (.bin .eq (.bin (.ford .f64) (.un (.wrap .u64) (.var 1)) (.un (.wrap .u64) (.var 2))) (.lit 0))), (.bin .eq (.bin .add (.var 0) (.lit (-97))) (.lit 1)), (.un .bnot (.bin .eq (.bin .add (.var 0) (.lit (-97))) (.lit 0))), (.bin .le (.var 0) (.lit 102)), (.bin .le (.lit 97) (.var 0))], (.tup [(.int .i64 (.lit 1)), (.int .i64 (.lit 0))])),
  ([(.bin .eq (.bin (.ford .f64) (.un (.wrap .u64) (.var 1)) (.un (.wrap .u64) (.var 2))) (.lit 0)), (.bin .eq (.bin .add (.var 0) (.lit (-97))) (.lit 1)), (.un .bnot (.bin .eq (.bin .add (.var 0) (.lit (-97))) (.lit 0))), (.bin .le (.var 0) (.lit 102)), (.bin .le (.lit 97) (.var 0))], (.tup [(.int .i64 (.lit 0)), (.int .i64 (.lit 0))])),
  ([(.bin .eq (.bin (.ford .f64) (.un (.wrap .u64) (.var 1)) (.un (.wrap .u64) (.var 2))) (.lit 1)), (.bin .eq (.bin .add (.var 0) (.lit (-97))) (.lit 2)), (.un .bnot (.bin .eq (.bin .add (.var 0) (.lit (-97))) (.lit 1))), (.un .bnot (.bin .eq (.bin .add (.var 0) (.lit (-97))) (.lit 0))), (.bin .le (.var 0) (.lit 102)), (.bin .le (.lit 97) (.var 0))], (.tup [(.int .i64 (.lit 1)), (.int .i64 (.lit 0))])),
  ([(.un .bnot (.bin .eq (.bin (.ford .f64) (.un (.wrap .u64) (.var 1)) (.un (.wrap .u64) (.var 2))) (.lit 1))), (.bin .eq (.bin .add (.var 0) (.lit (-97))) (.lit 2)), (.un .bnot (.bin .eq (.bin .add (.var 0) (.lit (-97))) (.lit 1))), (.un .bnot (.bin .eq (.bin .add (.var 0) (.lit (-97))) (.lit 0))), (.bin .le (.var 0) (.lit 102)), (.bin .le (.lit 97) (.var 0))], (.tup [(.int .i64 (.lit 0)), (.int .i64 (.lit 0))])),
  ([(.bin .eq (.bin (.ford .f64) (.un (.wrap .u64) (.var 1)) (.un (.wrap .u64) (.var 2))) (.lit 2)), (.bin .eq (.bin .add (.var 0) (.lit (-97))) (.lit 3)), (.un .bnot (.bin .eq (.bin .add (.var 0) (.lit (-97))) (.lit 2))), (.un .bnot (.bin .eq (.bin .add (.var 0) (.lit (-97))) (.lit 1))), (.un .bnot (.bin .eq (.bin .add (.var 0) (.lit (-97))) (.lit 0))), (.bin .le (.var 0) (.lit 102)), (.bin .le (.lit 97) (.var 0))], (.tup [(.int .i64 (.lit 1)), (.int .i64 (.lit 0))])),
  ([(.un .bnot (.bin .eq (.bin (.ford .f64) (.un (.wrap .u64) (.var 1)) (.un (.wrap .u64) (.var 2))) (.lit 2))), (.bin .eq (.bin .add (.var 0) (.lit (-97))) (.lit 3)), (.un .bnot (.bin .eq (.bin .add (.var 0) (.lit (-97))) (.lit 2))), (.un .bnot (.bin .eq (.bin .add (.var 0) (.lit (-97))) (.lit 1))), (.un .bnot (.bin .eq (.bin .add (.var 0) (.lit (-97))) (.lit 0))), (.bin .le (.var 0) (.lit 102)), (.bin .le (.lit 97) (.var 0))], (.tup [(.int .i64 (.lit 0)), (.int .i64 (.lit 0))])),
  ([(.bin .le (.bin (.ford .f64) (.un (.wrap .u64) (.var 1)) (.un (.wrap .u64) (.var 2))) (.lit 1)), (.bin .eq (.bin .add (.var 0) (.lit (-97))) (.lit 4)), (.un .bnot (.bin .eq (.bin .add (.var 0) (.lit (-97))) (.lit 3))), (.un .bnot (.bin .eq (.bin .add (.var 0) (.lit (-97))) (.lit 2))), (.un .bnot (.bin .eq (.bin .add (.var 0) (.lit (-97))) (.lit 1))), (.un .bnot (.bin .eq (.bin .add (.var 0) (.lit (-97))) (.lit 0))), (.bin .le (.var 0) (.lit 102)), (.bin .le (.lit 97) (.var 0))], (.tup [(.int .i64 (.lit 1)), (.int .i64 (.lit 0))])),
  ([(.bin .lt (.lit 1) (.bin (.ford .f64) (.un (.wrap .u64) (.var 1)) (.un (.wrap .u64) (.var 2)))), (.bin .eq (.bin .add (.var 0) (.lit (-97))) (.lit 4)), (.un .bnot (.bin .eq (.bin .add (.var 0) (.lit (-97))) (.lit 3))), (.un .bnot (.bin .eq (.bin .add (.var 0) (.lit (-97))) (.lit 2))), (.un .bnot (.bin .eq (.bin .add (.var 0) (.lit (-97))) (.lit 1))), (.un .bnot (.bin .eq (.bin .add (.var 0) (.lit (-97))) (.lit 0))), (.bin .le (.var 0) (.lit 102)), (.bin .le (.lit 97) (.var 0))], (.tup [(.int .i64 (.lit 0)), (.int .i64 (.lit 0))])),
  ([(.bin .or (.bin .eq (.bin (.ford .f64) (.un (.wrap .u64) (.var 1)) (.un (.wrap .u64) (.var 2))) (.lit 2)) (.bin .eq (.bin (.ford .f64) (.un (.wrap .u64) (.var 1)) (.un (.wrap .u64) (.var 2))) (.lit 0))), (.un .bnot (.bin .eq (.bin .add (.var 0) (.lit (-97))) (.lit 4))), (.un .bnot (.bin .eq (.bin .add (.var 0) (.lit (-97))) (.lit 3))), (.un .bnot (.bin .eq (.bin .add (.var 0) (.lit (-97))) (.lit 2))), (.un .bnot (.bin .eq (.bin .add (.var 0) (.lit (-97))) (.lit 1))), (.un .bnot (.bin .eq (.bin .add (.var 0) (.lit (-97))) (.lit 0))), (.bin .le (.var 0) (.lit 102)), (.bin .le (.lit 97) (.var 0))], (.tup [(.int .i64 (.lit 1)), (.int .i64 (.lit 0))])),
  ([(.un .bnot (.bin .or (.bin .eq (.bin (.ford .f64) (.un (.wrap .u64) (.var 1)) (.un (.wrap .u64) (.var 2))) (.lit 2)) (.bin .eq (.bin (.ford .f64) (.un (.wrap .u64) (.var 1)) (.un (.wrap .u64) (.var 2))) (.lit 0)))), (.un .bnot (.bin .eq (.bin .add (.var 0) (.lit (-97))) (.lit 4))), (.un .bnot (.bin .eq (.bin .add (.var 0) (.lit (-97))) (.lit 3))), (.un .bnot (.bin .eq (.bin .add (.var 0) (.lit (-97))) (.lit 2))), (.un .bnot (.bin .eq (.bin .add (.var 0) (.lit (-97))) (.lit 1))), (.un .bnot (.bin .eq (.bin .add (.var 0) (.lit (-97))) (.lit 0))), (.bin .le (.var 0) (.lit 102)), (.bin .le (.lit 97) (.var 0))], (.tup [(.int .i64 (.lit 0)), (.int .i64 (.lit 0))])),
  ([(.un .bnot (.bin .eq (.bin (.far .add .f64) (.un (.wrap .u64) (.var 1)) (.un (.wrap .u64) (.var 2))) (.lit (-1)))), (.bin .eq (.bin .add (.var 0) (.lit (-160))) (.lit 0)), (.bin .le (.var 0) (.lit 165)), (.bin .le (.lit 160) (.var 0)), (.bin .lt (.lit 102) (.var 0)), (.bin .le (.lit 97) (.var 0))], (.tup [(.int .i64 (.un (.wrap .i64) (.bin (.far .add .f64) (.un (.wrap .u64) (.var 1)) (.un (.wrap .u64) (.var 2))))), (.int .i64 (.lit 0))])),
  ([(.bin .eq (.bin (.far .add .f64) (.un (.wrap .u64) (.var 1)) (.un (.wrap .u64) (.var 2))) (.lit (-1))), (.bin .eq (.bin .add (.var 0) (.lit (-160))) (.lit 0)), (.bin .le (.var 0) (.lit 165)), (.bin .le (.lit 160) (.var 0)), (.bin .lt (.lit 102) (.var 0)), (.bin .le (.lit 97) (.var 0))], (.tup [(.int .i64 (.lit 9221120237041090560)), (.int .i64 (.lit 0))])),
  ([(.un .bnot (.bin .eq (.bin (.far .sub .f64) (.un (.wrap .u64) (.var 1)) (.un (.wrap .u64) (.var 2))) (.lit (-1)))), (.bin .eq (.bin .add (.var 0) (.lit (-160))) (.lit 1)), (.un .bnot (.bin .eq (.bin .add (.var 0) (.lit (-160))) (.lit 0))), (.bin .le (.var 0) (.lit 165)), (.bin .le (.lit 160) (.var 0)), (.bin .lt (.lit 102) (.var 0)), (.bin .le (.lit 97) (.var 0))], (.tup [(.int .i64 (.un (.wrap .i64) (.bin (.far .sub .f64) (.un (.wrap .u64) (.var 1)) (.un (.wrap .u64) (.var 2))))), (.int .i64 (.lit 0))])),
  ([(.bin .eq (.bin (.far .sub .f64) (.un (.wrap .u64) (.var 1)) (.un (.wrap .u64) (.var 2))) (.lit (-1))), (.bin .eq (.bin .add (.var 0) (.lit (-160))) (.lit 1)), (.un .bnot (.bin .eq (.bin .add (.var 0) (.lit (-160))) (.lit 0))), (.bin .le (.var 0) (.lit 165)), (.bin .le (.lit 160) (.var 0)), (.bin .lt (.lit 102) (.var 0)), (.bin .le (.lit 97) (.var 0))], (.tup [(.int .i64 (.lit 9221120237041090560)), (.int .i64 (.lit 0))])),
  ([(.un .bnot (.bin .eq (.bin (.far .mul .f64) (.un (.wrap .u64) (.var 1)) (.un (.wrap .u64) (.var 2))) (.lit (-1)))), (.bin .eq (.bin .add (.var 0) (.lit (-160))) (.lit 2)), (.un .bnot (.bin .eq (.bin .add (.var 0) (.lit (-160))) (.lit 1))), (.un .bnot (.bin .eq (.bin .add (.var 0) (.lit (-160))) (.lit 0))), (.bin .le (.var 0) (.lit 165)), (.bin .le (.lit 160) (.var 0)), (.bin .lt (.lit 102) (.var 0)), (.bin .le (.lit 97) (.var 0))], (.tup [(.int .i64 (.un (.wrap .i64) (.bin (.far .mul .f64) (.un (.wrap .u64) (.var 1)) (.un (.wrap .u64) (.var 2))))), (.int .i64 (.lit 0))])),
  ([(.bin .eq (.bin (.far .mul .f64) (.un (.wrap .u64) (.var 1)) (.un (.wrap .u64) (.var 2))) (.lit (-1))), (.bin .eq (.bin .add (.var 0) (.lit (-160))) (.lit 2)), (.un .bnot (.bin .eq (.bin .add (.var 0) (.lit (-160))) (.lit 1))), (.un .bnot (.bin .eq (.bin .add (.var 0) (.lit (-160))) (.lit 0))), (.bin .le (.var 0) (.lit 165)), (.bin .le (.lit 160) (.var 0)), (.bin .lt (.lit 102) (.var 0)), (.bin .le (.lit 97) (.var 0))], (.tup [(.int .i64 (.lit 9221120237041090560)), (.int .i64 (.lit 0))])),
  ([(.un .bnot (.bin .eq (.bin (.far .quo .f64) (.un (.wrap .u64) (.var 1)) (.un (.wrap .u64) (.var 2))) (.lit (-1)))), (.bin .eq (.bin .add (.var 0) (.lit (-160))) (.lit 3)), (.un .bnot (.bin .eq (.bin .add (.var 0) (.lit (-160))) (.lit 2))), (.un .bnot (.bin .eq (.bin .add (.var 0) (.lit (-160))) (.lit 1))), (.un .bnot (.bin .eq (.bin .add (.var 0) (.lit (-160))) (.lit 0))), (.bin .le (.var 0) (.lit 165)), (.bin .le (.lit 160) (.var 0)), (.bin .lt (.lit 102) (.var 0)), (.bin .le (.lit 97) (.var 0))], (.tup [(.int .i64 (.un (.wrap .i64) (.bin (.far .quo .f64) (.un (.wrap .u64) (.var 1)) (.un (.wrap .u64) (.var 2))))), (.int .i64 (.lit 0))])),
  ([(.bin .eq (.bin (.far .quo .f64) (.un (.wrap .u64) (.var 1)) (.un (.wrap .u64) (.var 2))) (.lit (-1))), (.bin .eq (.bin .add (.var 0) (.lit (-160))) (.lit 3)), (.un .bnot (.bin .eq (.bin .add (.var 0) (.lit (-160))) (.lit 2))), (.un .bnot (.bin .eq (.bin .add (.var 0) (.lit (-160))) (.lit 1))), (.un .bnot (.bin .eq (.bin .add (.var 0) (.lit (-160))) (.lit 0))), (.bin .le (.var 0) (.lit 165)), (.bin .le (.lit 160) (.var 0)), (.bin .lt (.lit 102) (.var 0)), (.bin .le (.lit 97) (.var 0))], (.tup [(.int .i64 (.lit 9221120237041090560)), (.int .i64 (.lit 0))])),
  ([(.un .bnot (.bin .eq (.bin (.ford .f64) (.un (.wrap .u64) (.var 1)) (.un (.wrap .u64) (.var 1))) (.lit 0))), (.un .bnot (.bin .eq (.bin .add (.var 0) (.lit (-160))) (.lit 3))), (.un .bnot (.bin .eq (.bin .add (.var 0) (.lit (-160))) (.lit 2))), (.un .bnot (.bin .eq (.bin .add (.var 0) (.lit (-160))) (.lit 1))), (.un .bnot (.bin .eq (.bin .add (.var 0) (.lit (-160))) (.lit 0))), (.bin .le (.var 0) (.lit 165)), (.bin .le (.lit 160) (.var 0)), (.bin .lt (.lit 102) (.var 0)), (.bin .le (.lit 97) (.var 0))], (.tup [(.int .i64 (.lit 9221120237041090560)), (.int .i64 (.lit 0))])),
  ([(.un .bnot (.bin .eq (.bin (.ford .f64) (.un (.wrap .u64) (.var 2)) (.un (.wrap .u64) (.var 2))) (.lit 0))), (.bin .eq (.bin (.ford .f64) (.un (.wrap .u64) (.var 1)) (.un (.wrap .u64) (.var 1))) (.lit 0)), (.un .bnot (.bin .eq (.bin .add (.var 0) (.lit (-160))) (.lit 3))), (.un .bnot (.bin .eq (.bin .add (.var 0) (.lit (-160))) (.lit 2))), (.un .bnot (.bin .eq (.bin .add (.var 0) (.lit (-160))) (.lit 1))), (.un .bnot (.bin .eq (.bin .add (.var 0) (.lit (-160))) (.lit 0))), (.bin .le (.var 0) (.lit 165)), (.bin .le (.lit 160) (.var 0)), (.bin .lt (.lit 102) (.var 0)), (.bin .le (.lit 97) (.var 0))], (.tup [(.int .i64 (.lit 9221120237041090560)), (.int .i64 (.lit 0))])),
  ([(.bin .eq (.bin .add (.var 0) (.lit (-160))) (.lit 4)), (.bin .eq (.bin (.ford .f64) (.un (.wrap .u64) (.var 2)) (.un (.wrap .u64) (.var 2))) (.lit 0)), (.bin .eq (.bin (.ford .f64) (.un (.wrap .u64) (.var 1)) (.un (.wrap .u64) (.var 1))) (.lit 0)), (.un .bnot (.bin .eq (.bin .add (.var 0) (.lit (-160))) (.lit 3))), (.un .bnot (.bin .eq (.bin .add (.var 0) (.lit (-160))) (.lit 2))), (.un .bnot (.bin .eq (.bin .add (.var 0) (.lit (-160))) (.lit 1))), (.un .bnot (.bin .eq (.bin .add (.var 0) (.lit (-160))) (.lit 0))), (.bin .le (.var 0) (.lit 165)), (.bin .le (.lit 160) (.var 0)), (.bin .lt (.lit 102) (.var 0)), (.bin .le (.lit 97) (.var 0))], (.tup [(.int .i64 (.un (.wrap .i64) (.bin (.fpick true) (.un (.wrap .u64) (.var 1)) (.un (.wrap .u64) (.var 2))))), (.int .i64 (.lit 0))])),
  ([(.un .bnot (.bin .eq (.bin .add (.var 0) (.lit (-160))) (.lit 4))), (.bin .eq (.bin (.ford .f64) (.un (.wrap .u64) (.var 2)) (.un (.wrap .u64) (.var 2))) (.lit 0)), (.bin .eq (.bin (.ford .f64) (.un (.wrap .u64) (.var 1)) (.un (.wrap .u64) (.var 1))) (.lit 0)), (.un .bnot (.bin .eq (.bin .add (.var 0) (.lit (-160))) (.lit 3))), (.un .bnot (.bin .eq (.bin .add (.var 0) (.lit (-160))) (.lit 2))), (.un .bnot (.bin .eq (.bin .add (.var 0) (.lit (-160))) (.lit 1))), (.un .bnot (.bin .eq (.bin .add (.var 0) (.lit (-160))) (.lit 0))), (.bin .le (.var 0) (.lit 165)), (.bin .le (.lit 160) (.var 0)), (.bin .lt (.lit 102) (.var 0)), (.bin .le (.lit 97) (.var 0))], (.tup [(.int .i64 (.un (.wrap .i64) (.bin (.fpick false) (.un (.wrap .u64) (.var 1)) (.un (.wrap .u64) (.var 2))))), (.int .i64 (.lit 0))])),
  ([(.bin .eq (.var 0) (.lit 166)), (.bin .lt (.lit 165) (.var 0)), (.bin .le (.lit 160) (.var 0)), (.bin .lt (.lit 102) (.var 0)), (.bin .le (.lit 97) (.var 0))], (.tup [(.int .i64 (.bin (.bits .or .i64) (.bin (.bits .andNot .i64) (.var 1) (.lit (-9223372036854775808))) (.bin (.bits .and .i64) (.var 2) (.lit (-9223372036854775808))))), (.int .i64 (.lit 0))])),
  ([(.un .bnot (.bin .eq (.var 0) (.lit 166))), (.bin .lt (.lit 165) (.var 0)), (.bin .le (.lit 160) (.var 0)), (.bin .lt (.lit 102) (.var 0)), (.bin .le (.lit 97) (.var 0))], (.tup [(.int .i64 (.lit 0)), (.int .i64 (.lit 500))])),
  ([(.bin .lt (.var 0) (.lit 160)), (.bin .lt (.lit 102) (.var 0)), (.bin .le (.lit 97) (.var 0))], (.tup [(.int .i64 (.lit 0)), (.int .i64 (.lit 500))])),
  ([(.bin .lt (.var 0) (.lit 97))], (.tup [(.int .i64 (.lit 0)), (.int .i64 (.lit 500))]))]
set_option maxRecDepth 100000 in
theorem binRan : runOf Try.prog (xOracle xts) noLoops (bodies fns) [] 4000 binS64.f binS64.ks binS64.pre = some binR := by kernel_rfl
def awR : List Leaf := [
  ([], (.bool (.lit 1)))]
set_option maxRecDepth 100000 in
theorem awRan : runOf Try.prog (xOracle xts) noLoops (bodies fns) [] 4000 aw64.f aw64.ks aw64.pre = some awR := by kernel_rfl
end Go.Proofs.Ytnodelimomljbaa.RunOp64

/- The contracts of f64n, in numbers alone. No condition. -/
namespace Go.Proofs.Ytnodelimomljbaa.PlainOp64
open Go Go.Sx Go.Sx.Flt Go.Proofs.Ytnodelimomljbaa.RunOp64

theorem unOne2 (a b : Option IntKind × E) (vs : List V) : unOne [a, b].length (.tup vs) = vs := rfl
theorem i64_wrap1 (n m : Int) : IntKind.i64.wrap (n + m) = (n + m + 9223372036854775808) % 18446744073709551616 - 9223372036854775808 := by
  simp only [IntKind.wrap, IntKind.bits, IntKind.signed]; simp; split <;> omega
theorem unV_den (ρ : Env) : unV64.den ρ = (selF unL64 (.lit 0) (ρ.v 0)).den ρ := den_sel _ _ _
theorem unE_den (ρ : Env) : unE64.den ρ = (selF ([153, 154, 155, 156, 157, 158, 159].map fun k => (k, .lit 0)) (.lit 500) (ρ.v 0)).den ρ := den_sel _ _ _
theorem binV_den (ρ : Env) : binV64.den ρ = (selF binL64 (.lit 0) (ρ.v 0)).den ρ := den_sel _ _ _
theorem binE_den (ρ : Env) : binE64.den ρ = (selF ([97, 98, 99, 100, 101, 102, 160, 161, 162, 163, 164, 165, 166].map fun k => (k, .lit 0)) (.lit 500) (ρ.v 0)).den ρ := den_sel _ _ _
set_option linter.unusedSimpArgs false
set_option linter.unusedVariables false

theorem un_plain (u : Nat → Int) (hk : KindOk u 0 unS64.ks) : Keeps ⟨u, fnF⟩ unS64.res unR := by
  have h0 : -9223372036854775808 ≤ u 0 ∧ u 0 ≤ 9223372036854775807 := of_kind hk.1
  simp only [unS64, unR, Keeps, chain, unOne2, SameL, E.prop, E.den, Bi.den, Un.den, true_and, and_true, unV_den, unE_den, i64_wrap1]
  refine ⟨?_, ?_, ?_, ?_, ?_, ?_, ?_, ?_, ?_, ?_, ?_, ?_, ?_⟩
  · intros
    have h : u 0 = 153 := by omega
    have e1 : selF unL64 (.lit 0) 153 = bi (.bits .andNot .i64) (v 1) sign64 := rfl
    have e2 : selF ([153, 154, 155, 156, 157, 158, 159].map fun k => (k, .lit 0)) (.lit 500) 153 = .lit 0 := rfl
    simp only [h, e1, e2]
    clear e1 e2
    simp_all [can64, pick64, nan64, x64, y64, o64, sign64, tr, bi, no, un, Flt.u64, Flt.i64, v, E.den, Bi.den, Un.den, b2i]
    all_goals (try (have hx := Int.not_le.2 (by assumption : (1 : Int) < fordI _ _ _); simp [hx]))
  · intros
    have h : u 0 = 154 := by omega
    have e1 : selF unL64 (.lit 0) 154 = bi (.bits .xor .i64) (v 1) sign64 := rfl
    have e2 : selF ([153, 154, 155, 156, 157, 158, 159].map fun k => (k, .lit 0)) (.lit 500) 154 = .lit 0 := rfl
    simp only [h, e1, e2]
    clear e1 e2
    simp_all [can64, pick64, nan64, x64, y64, o64, sign64, tr, bi, no, un, Flt.u64, Flt.i64, v, E.den, Bi.den, Un.den, b2i]
    all_goals (try (have hx := Int.not_le.2 (by assumption : (1 : Int) < fordI _ _ _); simp [hx]))
  · intros
    have h : u 0 = 155 := by omega
    have e1 : selF unL64 (.lit 0) 155 = can64 (un (.fwhole .up) x64) := rfl
    have e2 : selF ([153, 154, 155, 156, 157, 158, 159].map fun k => (k, .lit 0)) (.lit 500) 155 = .lit 0 := rfl
    simp only [h, e1, e2]
    clear e1 e2
    simp_all [can64, pick64, nan64, x64, y64, o64, sign64, tr, bi, no, un, Flt.u64, Flt.i64, v, E.den, Bi.den, Un.den, b2i]
    all_goals (try (have hx := Int.not_le.2 (by assumption : (1 : Int) < fordI _ _ _); simp [hx]))
  · intros
    have h : u 0 = 155 := by omega
    have e1 : selF unL64 (.lit 0) 155 = can64 (un (.fwhole .up) x64) := rfl
    have e2 : selF ([153, 154, 155, 156, 157, 158, 159].map fun k => (k, .lit 0)) (.lit 500) 155 = .lit 0 := rfl
    simp only [h, e1, e2]
    clear e1 e2
    simp_all [can64, pick64, nan64, x64, y64, o64, sign64, tr, bi, no, un, Flt.u64, Flt.i64, v, E.den, Bi.den, Un.den, b2i]
    all_goals (try (have hx := Int.not_le.2 (by assumption : (1 : Int) < fordI _ _ _); simp [hx]))
  · intros
    have h : u 0 = 156 := by omega
    have e1 : selF unL64 (.lit 0) 156 = can64 (un (.fwhole .down) x64) := rfl
    have e2 : selF ([153, 154, 155, 156, 157, 158, 159].map fun k => (k, .lit 0)) (.lit 500) 156 = .lit 0 := rfl
    simp only [h, e1, e2]
    clear e1 e2
    simp_all [can64, pick64, nan64, x64, y64, o64, sign64, tr, bi, no, un, Flt.u64, Flt.i64, v, E.den, Bi.den, Un.den, b2i]
    all_goals (try (have hx := Int.not_le.2 (by assumption : (1 : Int) < fordI _ _ _); simp [hx]))
  · intros
    have h : u 0 = 156 := by omega
    have e1 : selF unL64 (.lit 0) 156 = can64 (un (.fwhole .down) x64) := rfl
    have e2 : selF ([153, 154, 155, 156, 157, 158, 159].map fun k => (k, .lit 0)) (.lit 500) 156 = .lit 0 := rfl
    simp only [h, e1, e2]
    clear e1 e2
    simp_all [can64, pick64, nan64, x64, y64, o64, sign64, tr, bi, no, un, Flt.u64, Flt.i64, v, E.den, Bi.den, Un.den, b2i]
    all_goals (try (have hx := Int.not_le.2 (by assumption : (1 : Int) < fordI _ _ _); simp [hx]))
  · intros
    have h : u 0 = 157 := by omega
    have e1 : selF unL64 (.lit 0) 157 = can64 (un (.fwhole .zero) x64) := rfl
    have e2 : selF ([153, 154, 155, 156, 157, 158, 159].map fun k => (k, .lit 0)) (.lit 500) 157 = .lit 0 := rfl
    simp only [h, e1, e2]
    clear e1 e2
    simp_all [can64, pick64, nan64, x64, y64, o64, sign64, tr, bi, no, un, Flt.u64, Flt.i64, v, E.den, Bi.den, Un.den, b2i]
    all_goals (try (have hx := Int.not_le.2 (by assumption : (1 : Int) < fordI _ _ _); simp [hx]))
  · intros
    have h : u 0 = 157 := by omega
    have e1 : selF unL64 (.lit 0) 157 = can64 (un (.fwhole .zero) x64) := rfl
    have e2 : selF ([153, 154, 155, 156, 157, 158, 159].map fun k => (k, .lit 0)) (.lit 500) 157 = .lit 0 := rfl
    simp only [h, e1, e2]
    clear e1 e2
    simp_all [can64, pick64, nan64, x64, y64, o64, sign64, tr, bi, no, un, Flt.u64, Flt.i64, v, E.den, Bi.den, Un.den, b2i]
    all_goals (try (have hx := Int.not_le.2 (by assumption : (1 : Int) < fordI _ _ _); simp [hx]))
  · intros
    have h : u 0 = 158 := by omega
    have e1 : selF unL64 (.lit 0) 158 = can64 (un (.fwhole .even) x64) := rfl
    have e2 : selF ([153, 154, 155, 156, 157, 158, 159].map fun k => (k, .lit 0)) (.lit 500) 158 = .lit 0 := rfl
    simp only [h, e1, e2]
    clear e1 e2
    simp_all [can64, pick64, nan64, x64, y64, o64, sign64, tr, bi, no, un, Flt.u64, Flt.i64, v, E.den, Bi.den, Un.den, b2i]
    all_goals (try (have hx := Int.not_le.2 (by assumption : (1 : Int) < fordI _ _ _); simp [hx]))
  · intros
    have h : u 0 = 158 := by omega
    have e1 : selF unL64 (.lit 0) 158 = can64 (un (.fwhole .even) x64) := rfl
    have e2 : selF ([153, 154, 155, 156, 157, 158, 159].map fun k => (k, .lit 0)) (.lit 500) 158 = .lit 0 := rfl
    simp only [h, e1, e2]
    clear e1 e2
    simp_all [can64, pick64, nan64, x64, y64, o64, sign64, tr, bi, no, un, Flt.u64, Flt.i64, v, E.den, Bi.den, Un.den, b2i]
    all_goals (try (have hx := Int.not_le.2 (by assumption : (1 : Int) < fordI _ _ _); simp [hx]))
  · intros
    have h : u 0 = 159 := by omega
    have e1 : selF unL64 (.lit 0) 159 = can64 (un .fsqrt x64) := rfl
    have e2 : selF ([153, 154, 155, 156, 157, 158, 159].map fun k => (k, .lit 0)) (.lit 500) 159 = .lit 0 := rfl
    simp only [h, e1, e2]
    clear e1 e2
    simp_all [can64, pick64, nan64, x64, y64, o64, sign64, tr, bi, no, un, Flt.u64, Flt.i64, v, E.den, Bi.den, Un.den, b2i]
    all_goals (try (have hx := Int.not_le.2 (by assumption : (1 : Int) < fordI _ _ _); simp [hx]))
  · intros
    have h : u 0 = 159 := by omega
    have e1 : selF unL64 (.lit 0) 159 = can64 (un .fsqrt x64) := rfl
    have e2 : selF ([153, 154, 155, 156, 157, 158, 159].map fun k => (k, .lit 0)) (.lit 500) 159 = .lit 0 := rfl
    simp only [h, e1, e2]
    clear e1 e2
    simp_all [can64, pick64, nan64, x64, y64, o64, sign64, tr, bi, no, un, Flt.u64, Flt.i64, v, E.den, Bi.den, Un.den, b2i]
    all_goals (try (have hx := Int.not_le.2 (by assumption : (1 : Int) < fordI _ _ _); simp [hx]))
  · intros
    rw [selF_none _ _ _ (by intro p hp; simp [unL64] at hp; omega), selF_none _ _ _ (by intro p hp; simp at hp; omega)]
    exact ⟨rfl, rfl⟩

theorem bin_plain (u : Nat → Int) (hk : KindOk u 0 binS64.ks) : Keeps ⟨u, fnF⟩ binS64.res binR := by
  have h0 : -9223372036854775808 ≤ u 0 ∧ u 0 ≤ 9223372036854775807 := of_kind hk.1
  simp only [binS64, binR, Keeps, chain, unOne2, SameL, E.prop, E.den, Bi.den, Un.den, true_and, and_true, binV_den, binE_den, i64_wrap1]
  refine ⟨?_, ?_, ?_, ?_, ?_, ?_, ?_, ?_, ?_, ?_, ?_, ?_, ?_, ?_, ?_, ?_, ?_, ?_, ?_, ?_, ?_, ?_, ?_, ?_, ?_, ?_, ?_, ?_⟩
  · intros
    have h : u 0 = 97 := by omega
    have e1 : selF binL64 (.lit 0) 97 = tr (bi .eq o64 (.lit 0)) := rfl
    have e2 : selF ([97, 98, 99, 100, 101, 102, 160, 161, 162, 163, 164, 165, 166].map fun k => (k, .lit 0)) (.lit 500) 97 = .lit 0 := rfl
    simp only [h, e1, e2]
    clear e1 e2
    simp_all [can64, pick64, nan64, x64, y64, o64, sign64, tr, bi, no, un, Flt.u64, Flt.i64, v, E.den, Bi.den, Un.den, b2i]
    all_goals (try (have hx := Int.not_le.2 (by assumption : (1 : Int) < fordI _ _ _); simp [hx]))
  · intros
    have h : u 0 = 97 := by omega
    have e1 : selF binL64 (.lit 0) 97 = tr (bi .eq o64 (.lit 0)) := rfl
    have e2 : selF ([97, 98, 99, 100, 101, 102, 160, 161, 162, 163, 164, 165, 166].map fun k => (k, .lit 0)) (.lit 500) 97 = .lit 0 := rfl
    simp only [h, e1, e2]
    clear e1 e2
    simp_all [can64, pick64, nan64, x64, y64, o64, sign64, tr, bi, no, un, Flt.u64, Flt.i64, v, E.den, Bi.den, Un.den, b2i]
    all_goals (try (have hx := Int.not_le.2 (by assumption : (1 : Int) < fordI _ _ _); simp [hx]))
  · intros
    have h : u 0 = 98 := by omega
    have e1 : selF binL64 (.lit 0) 98 = tr (no (bi .eq o64 (.lit 0))) := rfl
    have e2 : selF ([97, 98, 99, 100, 101, 102, 160, 161, 162, 163, 164, 165, 166].map fun k => (k, .lit 0)) (.lit 500) 98 = .lit 0 := rfl
    simp only [h, e1, e2]
    clear e1 e2
    simp_all [can64, pick64, nan64, x64, y64, o64, sign64, tr, bi, no, un, Flt.u64, Flt.i64, v, E.den, Bi.den, Un.den, b2i]
    all_goals (try (have hx := Int.not_le.2 (by assumption : (1 : Int) < fordI _ _ _); simp [hx]))
  · intros
    have h : u 0 = 98 := by omega
    have e1 : selF binL64 (.lit 0) 98 = tr (no (bi .eq o64 (.lit 0))) := rfl
    have e2 : selF ([97, 98, 99, 100, 101, 102, 160, 161, 162, 163, 164, 165, 166].map fun k => (k, .lit 0)) (.lit 500) 98 = .lit 0 := rfl
    simp only [h, e1, e2]
    clear e1 e2
    simp_all [can64, pick64, nan64, x64, y64, o64, sign64, tr, bi, no, un, Flt.u64, Flt.i64, v, E.den, Bi.den, Un.den, b2i]
    all_goals (try (have hx := Int.not_le.2 (by assumption : (1 : Int) < fordI _ _ _); simp [hx]))
  · intros
    have h : u 0 = 99 := by omega
    have e1 : selF binL64 (.lit 0) 99 = tr (bi .eq o64 (.lit 1)) := rfl
    have e2 : selF ([97, 98, 99, 100, 101, 102, 160, 161, 162, 163, 164, 165, 166].map fun k => (k, .lit 0)) (.lit 500) 99 = .lit 0 := rfl
    simp only [h, e1, e2]
    clear e1 e2
    simp_all [can64, pick64, nan64, x64, y64, o64, sign64, tr, bi, no, un, Flt.u64, Flt.i64, v, E.den, Bi.den, Un.den, b2i]
    all_goals (try (have hx := Int.not_le.2 (by assumption : (1 : Int) < fordI _ _ _); simp [hx]))
  · intros
    have h : u 0 = 99 := by omega
    have e1 : selF binL64 (.lit 0) 99 = tr (bi .eq o64 (.lit 1)) := rfl
    have e2 : selF ([97, 98, 99, 100, 101, 102, 160, 161, 162, 163, 164, 165, 166].map fun k => (k, .lit 0)) (.lit 500) 99 = .lit 0 := rfl
    simp only [h, e1, e2]
    clear e1 e2
    simp_all [can64, pick64, nan64, x64, y64, o64, sign64, tr, bi, no, un, Flt.u64, Flt.i64, v, E.den, Bi.den, Un.den, b2i]
    all_goals (try (have hx := Int.not_le.2 (by assumption : (1 : Int) < fordI _ _ _); simp [hx]))
  · intros
    have h : u 0 = 100 := by omega
    have e1 : selF binL64 (.lit 0) 100 = tr (bi .eq o64 (.lit 2)) := rfl
    have e2 : selF ([97, 98, 99, 100, 101, 102, 160, 161, 162, 163, 164, 165, 166].map fun k => (k, .lit 0)) (.lit 500) 100 = .lit 0 := rfl
    simp only [h, e1, e2]
    clear e1 e2
    simp_all [can64, pick64, nan64, x64, y64, o64, sign64, tr, bi, no, un, Flt.u64, Flt.i64, v, E.den, Bi.den, Un.den, b2i]
    all_goals (try (have hx := Int.not_le.2 (by assumption : (1 : Int) < fordI _ _ _); simp [hx]))
  · intros
    have h : u 0 = 100 := by omega
    have e1 : selF binL64 (.lit 0) 100 = tr (bi .eq o64 (.lit 2)) := rfl
    have e2 : selF ([97, 98, 99, 100, 101, 102, 160, 161, 162, 163, 164, 165, 166].map fun k => (k, .lit 0)) (.lit 500) 100 = .lit 0 := rfl
    simp only [h, e1, e2]
    clear e1 e2
    simp_all [can64, pick64, nan64, x64, y64, o64, sign64, tr, bi, no, un, Flt.u64, Flt.i64, v, E.den, Bi.den, Un.den, b2i]
    all_goals (try (have hx := Int.not_le.2 (by assumption : (1 : Int) < fordI _ _ _); simp [hx]))
  · intros
    have h : u 0 = 101 := by omega
    have e1 : selF binL64 (.lit 0) 101 = tr (bi .le o64 (.lit 1)) := rfl
    have e2 : selF ([97, 98, 99, 100, 101, 102, 160, 161, 162, 163, 164, 165, 166].map fun k => (k, .lit 0)) (.lit 500) 101 = .lit 0 := rfl
    simp only [h, e1, e2]
    clear e1 e2
    simp_all [can64, pick64, nan64, x64, y64, o64, sign64, tr, bi, no, un, Flt.u64, Flt.i64, v, E.den, Bi.den, Un.den, b2i]
    all_goals (try (have hx := Int.not_le.2 (by assumption : (1 : Int) < fordI _ _ _); simp [hx]))
  · intros
    have h : u 0 = 101 := by omega
    have e1 : selF binL64 (.lit 0) 101 = tr (bi .le o64 (.lit 1)) := rfl
    have e2 : selF ([97, 98, 99, 100, 101, 102, 160, 161, 162, 163, 164, 165, 166].map fun k => (k, .lit 0)) (.lit 500) 101 = .lit 0 := rfl
    simp only [h, e1, e2]
    clear e1 e2
    simp_all [can64, pick64, nan64, x64, y64, o64, sign64, tr, bi, no, un, Flt.u64, Flt.i64, v, E.den, Bi.den, Un.den, b2i]
    all_goals (try (have hx := Int.not_le.2 (by assumption : (1 : Int) < fordI _ _ _); simp [hx]))
  · intros
    have h : u 0 = 102 := by omega
    have e1 : selF binL64 (.lit 0) 102 = tr (bi .or (bi .eq o64 (.lit 2)) (bi .eq o64 (.lit 0))) := rfl
    have e2 : selF ([97, 98, 99, 100, 101, 102, 160, 161, 162, 163, 164, 165, 166].map fun k => (k, .lit 0)) (.lit 500) 102 = .lit 0 := rfl
    simp only [h, e1, e2]
    clear e1 e2
    simp_all [can64, pick64, nan64, x64, y64, o64, sign64, tr, bi, no, un, Flt.u64, Flt.i64, v, E.den, Bi.den, Un.den, b2i]
    all_goals (try (have hx := Int.not_le.2 (by assumption : (1 : Int) < fordI _ _ _); simp [hx]))
  · intros
    have h : u 0 = 102 := by omega
    have e1 : selF binL64 (.lit 0) 102 = tr (bi .or (bi .eq o64 (.lit 2)) (bi .eq o64 (.lit 0))) := rfl
    have e2 : selF ([97, 98, 99, 100, 101, 102, 160, 161, 162, 163, 164, 165, 166].map fun k => (k, .lit 0)) (.lit 500) 102 = .lit 0 := rfl
    simp only [h, e1, e2]
    clear e1 e2
    simp_all [can64, pick64, nan64, x64, y64, o64, sign64, tr, bi, no, un, Flt.u64, Flt.i64, v, E.den, Bi.den, Un.den, b2i]
    all_goals (try (have hx := Int.not_le.2 (by assumption : (1 : Int) < fordI _ _ _); simp [hx]))
  · intros
    have h : u 0 = 160 := by omega
    have e1 : selF binL64 (.lit 0) 160 = can64 (bi (.far .add .f64) x64 y64) := rfl
    have e2 : selF ([97, 98, 99, 100, 101, 102, 160, 161, 162, 163, 164, 165, 166].map fun k => (k, .lit 0)) (.lit 500) 160 = .lit 0 := rfl
    simp only [h, e1, e2]
    clear e1 e2
    simp_all [can64, pick64, nan64, x64, y64, o64, sign64, tr, bi, no, un, Flt.u64, Flt.i64, v, E.den, Bi.den, Un.den, b2i]
    all_goals (try (have hx := Int.not_le.2 (by assumption : (1 : Int) < fordI _ _ _); simp [hx]))
  · intros
    have h : u 0 = 160 := by omega
    have e1 : selF binL64 (.lit 0) 160 = can64 (bi (.far .add .f64) x64 y64) := rfl
    have e2 : selF ([97, 98, 99, 100, 101, 102, 160, 161, 162, 163, 164, 165, 166].map fun k => (k, .lit 0)) (.lit 500) 160 = .lit 0 := rfl
    simp only [h, e1, e2]
    clear e1 e2
    simp_all [can64, pick64, nan64, x64, y64, o64, sign64, tr, bi, no, un, Flt.u64, Flt.i64, v, E.den, Bi.den, Un.den, b2i]
    all_goals (try (have hx := Int.not_le.2 (by assumption : (1 : Int) < fordI _ _ _); simp [hx]))
  · intros
    have h : u 0 = 161 := by omega
    have e1 : selF binL64 (.lit 0) 161 = can64 (bi (.far .sub .f64) x64 y64) := rfl
    have e2 : selF ([97, 98, 99, 100, 101, 102, 160, 161, 162, 163, 164, 165, 166].map fun k => (k, .lit 0)) (.lit 500) 161 = .lit 0 := rfl
    simp only [h, e1, e2]
    clear e1 e2
    simp_all [can64, pick64, nan64, x64, y64, o64, sign64, tr, bi, no, un, Flt.u64, Flt.i64, v, E.den, Bi.den, Un.den, b2i]
    all_goals (try (have hx := Int.not_le.2 (by assumption : (1 : Int) < fordI _ _ _); simp [hx]))
  · intros
    have h : u 0 = 161 := by omega
    have e1 : selF binL64 (.lit 0) 161 = can64 (bi (.far .sub .f64) x64 y64) := rfl
    have e2 : selF ([97, 98, 99, 100, 101, 102, 160, 161, 162, 163, 164, 165, 166].map fun k => (k, .lit 0)) (.lit 500) 161 = .lit 0 := rfl
    simp only [h, e1, e2]
    clear e1 e2
    simp_all [can64, pick64, nan64, x64, y64, o64, sign64, tr, bi, no, un, Flt.u64, Flt.i64, v, E.den, Bi.den, Un.den, b2i]
    all_goals (try (have hx := Int.not_le.2 (by assumption : (1 : Int) < fordI _ _ _); simp [hx]))
  · intros
    have h : u 0 = 162 := by omega
    have e1 : selF binL64 (.lit 0) 162 = can64 (bi (.far .mul .f64) x64 y64) := rfl
    have e2 : selF ([97, 98, 99, 100, 101, 102, 160, 161, 162, 163, 164, 165, 166].map fun k => (k, .lit 0)) (.lit 500) 162 = .lit 0 := rfl
    simp only [h, e1, e2]
    clear e1 e2
    simp_all [can64, pick64, nan64, x64, y64, o64, sign64, tr, bi, no, un, Flt.u64, Flt.i64, v, E.den, Bi.den, Un.den, b2i]
    all_goals (try (have hx := Int.not_le.2 (by assumption : (1 : Int) < fordI _ _ _); simp [hx]))
  · intros
    have h : u 0 = 162 := by omega
    have e1 : selF binL64 (.lit 0) 162 = can64 (bi (.far .mul .f64) x64 y64) := rfl
    have e2 : selF ([97, 98, 99, 100, 101, 102, 160, 161, 162, 163, 164, 165, 166].map fun k => (k, .lit 0)) (.lit 500) 162 = .lit 0 := rfl
    simp only [h, e1, e2]
    clear e1 e2
    simp_all [can64, pick64, nan64, x64, y64, o64, sign64, tr, bi, no, un, Flt.u64, Flt.i64, v, E.den, Bi.den, Un.den, b2i]
    all_goals (try (have hx := Int.not_le.2 (by assumption : (1 : Int) < fordI _ _ _); simp [hx]))
  · intros
    have h : u 0 = 163 := by omega
    have e1 : selF binL64 (.lit 0) 163 = can64 (bi (.far .quo .f64) x64 y64) := rfl
    have e2 : selF ([97, 98, 99, 100, 101, 102, 160, 161, 162, 163, 164, 165, 166].map fun k => (k, .lit 0)) (.lit 500) 163 = .lit 0 := rfl
    simp only [h, e1, e2]
    clear e1 e2
    simp_all [can64, pick64, nan64, x64, y64, o64, sign64, tr, bi, no, un, Flt.u64, Flt.i64, v, E.den, Bi.den, Un.den, b2i]
    all_goals (try (have hx := Int.not_le.2 (by assumption : (1 : Int) < fordI _ _ _); simp [hx]))
  · intros
    have h : u 0 = 163 := by omega
    have e1 : selF binL64 (.lit 0) 163 = can64 (bi (.far .quo .f64) x64 y64) := rfl
    have e2 : selF ([97, 98, 99, 100, 101, 102, 160, 161, 162, 163, 164, 165, 166].map fun k => (k, .lit 0)) (.lit 500) 163 = .lit 0 := rfl
    simp only [h, e1, e2]
    clear e1 e2
    simp_all [can64, pick64, nan64, x64, y64, o64, sign64, tr, bi, no, un, Flt.u64, Flt.i64, v, E.den, Bi.den, Un.den, b2i]
    all_goals (try (have hx := Int.not_le.2 (by assumption : (1 : Int) < fordI _ _ _); simp [hx]))
  · intros
    rcases (show u 0 = 164 ∨ u 0 = 165 by omega) with h | h
    · have e1 : selF binL64 (.lit 0) 164 = pick64 true := rfl
      have e2 : selF ([97, 98, 99, 100, 101, 102, 160, 161, 162, 163, 164, 165, 166].map fun k => (k, .lit 0)) (.lit 500) 164 = .lit 0 := rfl
      simp only [h, e1, e2]
      clear e1 e2
      simp_all [can64, pick64, nan64, x64, y64, o64, sign64, tr, bi, no, un, Flt.u64, Flt.i64, v, E.den, Bi.den, Un.den, b2i]
      all_goals (try (have hx := Int.not_le.2 (by assumption : (1 : Int) < fordI _ _ _); simp [hx]))
    · have e1 : selF binL64 (.lit 0) 165 = pick64 false := rfl
      have e2 : selF ([97, 98, 99, 100, 101, 102, 160, 161, 162, 163, 164, 165, 166].map fun k => (k, .lit 0)) (.lit 500) 165 = .lit 0 := rfl
      simp only [h, e1, e2]
      clear e1 e2
      simp_all [can64, pick64, nan64, x64, y64, o64, sign64, tr, bi, no, un, Flt.u64, Flt.i64, v, E.den, Bi.den, Un.den, b2i]
      all_goals (try (have hx := Int.not_le.2 (by assumption : (1 : Int) < fordI _ _ _); simp [hx]))
  · intros
    rcases (show u 0 = 164 ∨ u 0 = 165 by omega) with h | h
    · have e1 : selF binL64 (.lit 0) 164 = pick64 true := rfl
      have e2 : selF ([97, 98, 99, 100, 101, 102, 160, 161, 162, 163, 164, 165, 166].map fun k => (k, .lit 0)) (.lit 500) 164 = .lit 0 := rfl
      simp only [h, e1, e2]
      clear e1 e2
      simp_all [can64, pick64, nan64, x64, y64, o64, sign64, tr, bi, no, un, Flt.u64, Flt.i64, v, E.den, Bi.den, Un.den, b2i]
      all_goals (try (have hx := Int.not_le.2 (by assumption : (1 : Int) < fordI _ _ _); simp [hx]))
    · have e1 : selF binL64 (.lit 0) 165 = pick64 false := rfl
      have e2 : selF ([97, 98, 99, 100, 101, 102, 160, 161, 162, 163, 164, 165, 166].map fun k => (k, .lit 0)) (.lit 500) 165 = .lit 0 := rfl
      simp only [h, e1, e2]
      clear e1 e2
      simp_all [can64, pick64, nan64, x64, y64, o64, sign64, tr, bi, no, un, Flt.u64, Flt.i64, v, E.den, Bi.den, Un.den, b2i]
      all_goals (try (have hx := Int.not_le.2 (by assumption : (1 : Int) < fordI _ _ _); simp [hx]))
  · intros
    have h : u 0 = 164 := by omega
    have e1 : selF binL64 (.lit 0) 164 = pick64 true := rfl
    have e2 : selF ([97, 98, 99, 100, 101, 102, 160, 161, 162, 163, 164, 165, 166].map fun k => (k, .lit 0)) (.lit 500) 164 = .lit 0 := rfl
    simp only [h, e1, e2]
    clear e1 e2
    simp_all [can64, pick64, nan64, x64, y64, o64, sign64, tr, bi, no, un, Flt.u64, Flt.i64, v, E.den, Bi.den, Un.den, b2i]
    all_goals (try (have hx := Int.not_le.2 (by assumption : (1 : Int) < fordI _ _ _); simp [hx]))
  · intros
    have h : u 0 = 165 := by omega
    have e1 : selF binL64 (.lit 0) 165 = pick64 false := rfl
    have e2 : selF ([97, 98, 99, 100, 101, 102, 160, 161, 162, 163, 164, 165, 166].map fun k => (k, .lit 0)) (.lit 500) 165 = .lit 0 := rfl
    simp only [h, e1, e2]
    clear e1 e2
    simp_all [can64, pick64, nan64, x64, y64, o64, sign64, tr, bi, no, un, Flt.u64, Flt.i64, v, E.den, Bi.den, Un.den, b2i]
    all_goals (try (have hx := Int.not_le.2 (by assumption : (1 : Int) < fordI _ _ _); simp [hx]))
  · intros
    have h : u 0 = 166 := by omega
    have e1 : selF binL64 (.lit 0) 166 = bi (.bits .or .i64) (bi (.bits .andNot .i64) (v 1) sign64) (bi (.bits .and .i64) (v 2) sign64) := rfl
    have e2 : selF ([97, 98, 99, 100, 101, 102, 160, 161, 162, 163, 164, 165, 166].map fun k => (k, .lit 0)) (.lit 500) 166 = .lit 0 := rfl
    simp only [h, e1, e2]
    clear e1 e2
    simp_all [can64, pick64, nan64, x64, y64, o64, sign64, tr, bi, no, un, Flt.u64, Flt.i64, v, E.den, Bi.den, Un.den, b2i]
    all_goals (try (have hx := Int.not_le.2 (by assumption : (1 : Int) < fordI _ _ _); simp [hx]))
  · intros
    rw [selF_none _ _ _ (by intro p hp; simp [binL64] at hp; omega), selF_none _ _ _ (by intro p hp; simp at hp; omega)]
    exact ⟨rfl, rfl⟩
  · intros
    rw [selF_none _ _ _ (by intro p hp; simp [binL64] at hp; omega), selF_none _ _ _ (by intro p hp; simp at hp; omega)]
    exact ⟨rfl, rfl⟩
  · intros
    rw [selF_none _ _ _ (by intro p hp; simp [binL64] at hp; omega), selF_none _ _ _ (by intro p hp; simp at hp; omega)]
    exact ⟨rfl, rfl⟩

theorem aw_plain (u : Nat → Int) : Keeps ⟨u, fnF⟩ aw64.res awR := by simp [aw64, awR, Keeps, chain, SameL, unOne]
end Go.Proofs.Ytnodelimomljbaa.PlainOp64

/- The reference's exported operations of doubles come to the same expressions as the program's. No condition. -/
namespace Go.Proofs.Ytnodelimomljbaa.PlainRefG
open Go Go.Sx Go.Sx.Flt Go.Sx.Ref Go.Proofs.Ytnodelimomljbaa.RunRefE Go.Proofs.Ytnodelimomljbaa.PlainRefA Go.Proofs.Ytnodelimomljbaa.PlainOp64
set_option linter.unusedSimpArgs false
set_option linter.unusedVariables false
theorem i64_u64 (n : Int) : IntKind.i64.wrap (IntKind.u64.wrap n) = IntKind.i64.wrap n := by
  simp [IntKind.wrap, IntKind.bits, IntKind.signed]
theorem ofInt_u64 (x : Int) : BitVec.ofInt 64 (IntKind.u64.wrap x) = BitVec.ofInt 64 x := by
  apply BitVec.eq_of_toNat_eq
  rw [ofInt_nat, ofInt_nat, u64_wr]
  congr 1
  omega
theorem bits_i64 (op : BinOp) (x : Int) : IntKind.i64.wrap (bitI op .u64 (IntKind.u64.wrap x) 9223372036854775808) = bitI op .i64 x (-9223372036854775808) := by
  have e : BitVec.ofInt 64 9223372036854775808 = BitVec.ofInt 64 (-9223372036854775808) := by decide
  unfold bitI
  simp only [i64_u64]
  show IntKind.i64.wrap _ = IntKind.i64.wrap _
  have f : BitVec.ofInt IntKind.u64.bits (IntKind.u64.wrap x) = BitVec.ofInt IntKind.i64.bits x := ofInt_u64 x
  have g : BitVec.ofInt IntKind.u64.bits 9223372036854775808 = BitVec.ofInt IntKind.i64.bits (-9223372036854775808) := e
  rw [f, g]
  rfl
theorem copy_i64 (x y : Int) : IntKind.i64.wrap (bitI .or .u64 (bitI .andNot .u64 (IntKind.u64.wrap x) 9223372036854775808) (bitI .and .u64 (IntKind.u64.wrap y) 9223372036854775808)) =
    bitI .or .i64 (bitI .andNot .i64 x (-9223372036854775808)) (bitI .and .i64 y (-9223372036854775808)) := by
  have tw : ∀ a : Int, BitVec.ofInt 64 (IntKind.i64.wrap a) = BitVec.ofInt 64 a := fun a => by
    apply BitVec.eq_of_toNat_eq
    rw [ofInt_nat, ofInt_nat]
    congr 1
    simp only [IntKind.wrap, IntKind.bits, IntKind.signed]
    simp
    split <;> omega
  rw [← bits_i64, ← bits_i64]
  generalize bitI .andNot .u64 (IntKind.u64.wrap x) 9223372036854775808 = a
  generalize bitI .and .u64 (IntKind.u64.wrap y) 9223372036854775808 = b
  unfold bitI
  simp only [i64_u64]
  have f : BitVec.ofInt IntKind.i64.bits (IntKind.i64.wrap a) = BitVec.ofInt IntKind.u64.bits a := tw a
  have g : BitVec.ofInt IntKind.i64.bits (IntKind.i64.wrap b) = BitVec.ofInt IntKind.u64.bits b := tw b
  rw [f, g]
  rfl
theorem nan_i64 : IntKind.i64.wrap 9221120237041090560 = 9221120237041090560 := by decide
theorem can_i64 {V : Int} : IntKind.i64.wrap (iteP (V = -1) 9221120237041090560 V) = iteP (V = -1) 9221120237041090560 (IntKind.i64.wrap V) := by
  by_cases h : V = -1
  · rw [iteP_pos h, iteP_pos h, nan_i64]
  · rw [iteP_neg h, iteP_neg h]
theorem pick_i64 {p q : Prop} {V : Int} : IntKind.i64.wrap (iteP p 9221120237041090560 (iteP q 9221120237041090560 V)) = iteP p 9221120237041090560 (iteP q 9221120237041090560 (IntKind.i64.wrap V)) := by
  by_cases h : p
  · rw [iteP_pos h, iteP_pos h, nan_i64]
  · rw [iteP_neg h, iteP_neg h]
    by_cases g : q
    · rw [iteP_pos g, iteP_pos g, nan_i64]
    · rw [iteP_neg g, iteP_neg g]
theorem den_unP (ρ : Env) (o : Un) (a : E) : (E.un o a).den ρ = o.den (a.den ρ) := rfl
set_option maxHeartbeats 1000000 in
theorem refUn_plain (u : Nat → Int) (hk : KindOk u 0 refUnS.ks) (hp : pcOk ⟨u, fnG⟩ refUnS.pre) : Keeps ⟨u, fnG⟩ refUnS.res refUnR := by
  simp only [refUnS, refUnR]
  simp only [Keeps, chain, unOne2, SameL, unV_den, unE_den, den_iteP, den_unP, den_bitsP, E.prop, true_and, and_true]
  simp only [E.den, Bi.den, Un.den]
  refine ⟨?_, ?_, ?_⟩
  · intro h1
    rw [selF_none unL64 _ _ (by simp [unL64]; omega), selF_none ([153, 154, 155, 156, 157, 158, 159].map fun k => (k, .lit 0)) _ _ (by simp; omega)]
    exact ⟨rfl, rfl⟩
  · intro h1 h2
    rw [selF_none unL64 _ _ (by simp [unL64]; omega), selF_none ([153, 154, 155, 156, 157, 158, 159].map fun k => (k, .lit 0)) _ _ (by simp; omega)]
    exact ⟨rfl, rfl⟩
  · intro h1 h2
    have hc : u 0 = 153 ∨ u 0 = 154 ∨ u 0 = 155 ∨ u 0 = 156 ∨ u 0 = 157 ∨ u 0 = 158 ∨ u 0 = 159 := by omega
    rcases hc with h | h | h | h | h | h | h
    · have h : u 0 = 153 := h
      have e1 : selF unL64 (.lit 0) 153 = bi (.bits .andNot .i64) (v 1) sign64 := rfl
      have e2 : selF ([153, 154, 155, 156, 157, 158, 159].map fun k => (k, .lit 0)) (.lit 500) 153 = .lit 0 := rfl
      rw [h, e1, e2]
      clear e1 e2
      refine ⟨?_, rfl⟩
      simp only [can64, pick64, nan64, x64, y64, o64, sign64, tr, bi, no, un, Flt.u64, Flt.i64, v, den_iteP, den_unP, E.prop]; simp only [E.den, Bi.den, Un.den]
      rw [iteP_pos (by decide)]
      all_goals exact bits_i64 .andNot (u 1)
    · have h : u 0 = 154 := h
      have e1 : selF unL64 (.lit 0) 154 = bi (.bits .xor .i64) (v 1) sign64 := rfl
      have e2 : selF ([153, 154, 155, 156, 157, 158, 159].map fun k => (k, .lit 0)) (.lit 500) 154 = .lit 0 := rfl
      rw [h, e1, e2]
      clear e1 e2
      refine ⟨?_, rfl⟩
      simp only [can64, pick64, nan64, x64, y64, o64, sign64, tr, bi, no, un, Flt.u64, Flt.i64, v, den_iteP, den_unP, E.prop]; simp only [E.den, Bi.den, Un.den]
      rw [iteP_neg (by decide), iteP_pos (by decide)]
      all_goals exact bits_i64 .xor (u 1)
    · have h : u 0 = 155 := h
      have e1 : selF unL64 (.lit 0) 155 = can64 (un (.fwhole .up) x64) := rfl
      have e2 : selF ([153, 154, 155, 156, 157, 158, 159].map fun k => (k, .lit 0)) (.lit 500) 155 = .lit 0 := rfl
      rw [h, e1, e2]
      clear e1 e2
      refine ⟨?_, rfl⟩
      simp only [can64, pick64, nan64, x64, y64, o64, sign64, tr, bi, no, un, Flt.u64, Flt.i64, v, den_iteP, den_unP, E.prop]; simp only [E.den, Bi.den, Un.den]
      rw [iteP_neg (by decide), iteP_neg (by decide), iteP_pos (by decide)]
      all_goals exact can_i64
    · have h : u 0 = 156 := h
      have e1 : selF unL64 (.lit 0) 156 = can64 (un (.fwhole .down) x64) := rfl
      have e2 : selF ([153, 154, 155, 156, 157, 158, 159].map fun k => (k, .lit 0)) (.lit 500) 156 = .lit 0 := rfl
      rw [h, e1, e2]
      clear e1 e2
      refine ⟨?_, rfl⟩
      simp only [can64, pick64, nan64, x64, y64, o64, sign64, tr, bi, no, un, Flt.u64, Flt.i64, v, den_iteP, den_unP, E.prop]; simp only [E.den, Bi.den, Un.den]
      rw [iteP_neg (by decide), iteP_neg (by decide), iteP_neg (by decide), iteP_pos (by decide)]
      all_goals exact can_i64
    · have h : u 0 = 157 := h
      have e1 : selF unL64 (.lit 0) 157 = can64 (un (.fwhole .zero) x64) := rfl
      have e2 : selF ([153, 154, 155, 156, 157, 158, 159].map fun k => (k, .lit 0)) (.lit 500) 157 = .lit 0 := rfl
      rw [h, e1, e2]
      clear e1 e2
      refine ⟨?_, rfl⟩
      simp only [can64, pick64, nan64, x64, y64, o64, sign64, tr, bi, no, un, Flt.u64, Flt.i64, v, den_iteP, den_unP, E.prop]; simp only [E.den, Bi.den, Un.den]
      rw [iteP_neg (by decide), iteP_neg (by decide), iteP_neg (by decide), iteP_neg (by decide), iteP_pos (by decide)]
      all_goals exact can_i64
    · have h : u 0 = 158 := h
      have e1 : selF unL64 (.lit 0) 158 = can64 (un (.fwhole .even) x64) := rfl
      have e2 : selF ([153, 154, 155, 156, 157, 158, 159].map fun k => (k, .lit 0)) (.lit 500) 158 = .lit 0 := rfl
      rw [h, e1, e2]
      clear e1 e2
      refine ⟨?_, rfl⟩
      simp only [can64, pick64, nan64, x64, y64, o64, sign64, tr, bi, no, un, Flt.u64, Flt.i64, v, den_iteP, den_unP, E.prop]; simp only [E.den, Bi.den, Un.den]
      rw [iteP_neg (by decide), iteP_neg (by decide), iteP_neg (by decide), iteP_neg (by decide), iteP_neg (by decide), iteP_pos (by decide)]
      all_goals exact can_i64
    · have h : u 0 = 159 := h
      have e1 : selF unL64 (.lit 0) 159 = can64 (un .fsqrt x64) := rfl
      have e2 : selF ([153, 154, 155, 156, 157, 158, 159].map fun k => (k, .lit 0)) (.lit 500) 159 = .lit 0 := rfl
      rw [h, e1, e2]
      clear e1 e2
      refine ⟨?_, rfl⟩
      simp only [can64, pick64, nan64, x64, y64, o64, sign64, tr, bi, no, un, Flt.u64, Flt.i64, v, den_iteP, den_unP, E.prop]; simp only [E.den, Bi.den, Un.den]
      rw [iteP_neg (by decide), iteP_neg (by decide), iteP_neg (by decide), iteP_neg (by decide), iteP_neg (by decide), iteP_neg (by decide)]
      all_goals exact can_i64
set_option maxHeartbeats 1000000 in
theorem refBin_plain (u : Nat → Int) (hk : KindOk u 0 refBinS.ks) (hp : pcOk ⟨u, fnG⟩ refBinS.pre) : Keeps ⟨u, fnG⟩ refBinS.res refBinR := by
  simp only [refBinS, refBinR]
  simp only [Keeps, chain, unOne2, SameL, binV_den, binE_den, den_iteP, den_unP, den_bitsP, E.prop, true_and, and_true]
  simp only [E.den, Bi.den, Un.den]
  refine ⟨?_, ?_, ?_, ?_, ?_⟩
  · intro h1 h2
    have hc : u 0 = 97 ∨ u 0 = 98 ∨ u 0 = 99 ∨ u 0 = 100 ∨ u 0 = 101 ∨ u 0 = 102 := by omega
    rcases hc with h | h | h | h | h | h
    · have h : u 0 = 97 := h
      have e1 : selF binL64 (.lit 0) 97 = tr (bi .eq o64 (.lit 0)) := rfl
      have e2 : selF ([97, 98, 99, 100, 101, 102, 160, 161, 162, 163, 164, 165, 166].map fun k => (k, .lit 0)) (.lit 500) 97 = .lit 0 := rfl
      rw [h, e1, e2]
      clear e1 e2
      refine ⟨?_, rfl⟩
      simp only [can64, pick64, nan64, x64, y64, o64, sign64, tr, bi, no, un, Flt.u64, Flt.i64, v, den_iteP, den_unP, E.prop]; simp only [E.den, Bi.den, Un.den]
      rw [iteP_pos (by decide)]
      all_goals exact rfl
    · have h : u 0 = 98 := h
      have e1 : selF binL64 (.lit 0) 98 = tr (no (bi .eq o64 (.lit 0))) := rfl
      have e2 : selF ([97, 98, 99, 100, 101, 102, 160, 161, 162, 163, 164, 165, 166].map fun k => (k, .lit 0)) (.lit 500) 98 = .lit 0 := rfl
      rw [h, e1, e2]
      clear e1 e2
      refine ⟨?_, rfl⟩
      simp only [can64, pick64, nan64, x64, y64, o64, sign64, tr, bi, no, un, Flt.u64, Flt.i64, v, den_iteP, den_unP, E.prop]; simp only [E.den, Bi.den, Un.den]
      rw [iteP_neg (by decide), iteP_pos (by decide)]
      all_goals exact rfl
    · have h : u 0 = 99 := h
      have e1 : selF binL64 (.lit 0) 99 = tr (bi .eq o64 (.lit 1)) := rfl
      have e2 : selF ([97, 98, 99, 100, 101, 102, 160, 161, 162, 163, 164, 165, 166].map fun k => (k, .lit 0)) (.lit 500) 99 = .lit 0 := rfl
      rw [h, e1, e2]
      clear e1 e2
      refine ⟨?_, rfl⟩
      simp only [can64, pick64, nan64, x64, y64, o64, sign64, tr, bi, no, un, Flt.u64, Flt.i64, v, den_iteP, den_unP, E.prop]; simp only [E.den, Bi.den, Un.den]
      rw [iteP_neg (by decide), iteP_neg (by decide), iteP_pos (by decide)]
      all_goals exact rfl
    · have h : u 0 = 100 := h
      have e1 : selF binL64 (.lit 0) 100 = tr (bi .eq o64 (.lit 2)) := rfl
      have e2 : selF ([97, 98, 99, 100, 101, 102, 160, 161, 162, 163, 164, 165, 166].map fun k => (k, .lit 0)) (.lit 500) 100 = .lit 0 := rfl
      rw [h, e1, e2]
      clear e1 e2
      refine ⟨?_, rfl⟩
      simp only [can64, pick64, nan64, x64, y64, o64, sign64, tr, bi, no, un, Flt.u64, Flt.i64, v, den_iteP, den_unP, E.prop]; simp only [E.den, Bi.den, Un.den]
      rw [iteP_neg (by decide), iteP_neg (by decide), iteP_neg (by decide), iteP_pos (by decide)]
      all_goals exact rfl
    · have h : u 0 = 101 := h
      have e1 : selF binL64 (.lit 0) 101 = tr (bi .le o64 (.lit 1)) := rfl
      have e2 : selF ([97, 98, 99, 100, 101, 102, 160, 161, 162, 163, 164, 165, 166].map fun k => (k, .lit 0)) (.lit 500) 101 = .lit 0 := rfl
      rw [h, e1, e2]
      clear e1 e2
      refine ⟨?_, rfl⟩
      simp only [can64, pick64, nan64, x64, y64, o64, sign64, tr, bi, no, un, Flt.u64, Flt.i64, v, den_iteP, den_unP, E.prop]; simp only [E.den, Bi.den, Un.den]
      rw [iteP_neg (by decide), iteP_neg (by decide), iteP_neg (by decide), iteP_neg (by decide), iteP_pos (by decide)]
      all_goals exact rfl
    · have h : u 0 = 102 := h
      have e1 : selF binL64 (.lit 0) 102 = tr (bi .or (bi .eq o64 (.lit 2)) (bi .eq o64 (.lit 0))) := rfl
      have e2 : selF ([97, 98, 99, 100, 101, 102, 160, 161, 162, 163, 164, 165, 166].map fun k => (k, .lit 0)) (.lit 500) 102 = .lit 0 := rfl
      rw [h, e1, e2]
      clear e1 e2
      refine ⟨?_, rfl⟩
      simp only [can64, pick64, nan64, x64, y64, o64, sign64, tr, bi, no, un, Flt.u64, Flt.i64, v, den_iteP, den_unP, E.prop]; simp only [E.den, Bi.den, Un.den]
      rw [iteP_neg (by decide), iteP_neg (by decide), iteP_neg (by decide), iteP_neg (by decide), iteP_neg (by decide)]
      all_goals exact rfl
  · intro h1 h2 h3 h4
    have hc : u 0 = 160 ∨ u 0 = 161 ∨ u 0 = 162 ∨ u 0 = 163 ∨ u 0 = 164 ∨ u 0 = 165 ∨ u 0 = 166 := by omega
    rcases hc with h | h | h | h | h | h | h
    · have h : u 0 = 160 := h
      have e1 : selF binL64 (.lit 0) 160 = can64 (bi (.far .add .f64) x64 y64) := rfl
      have e2 : selF ([97, 98, 99, 100, 101, 102, 160, 161, 162, 163, 164, 165, 166].map fun k => (k, .lit 0)) (.lit 500) 160 = .lit 0 := rfl
      rw [h, e1, e2]
      clear e1 e2
      refine ⟨?_, rfl⟩
      simp only [can64, pick64, nan64, x64, y64, o64, sign64, tr, bi, no, un, Flt.u64, Flt.i64, v, den_iteP, den_unP, E.prop]; simp only [E.den, Bi.den, Un.den]
      rw [iteP_pos (by decide)]
      all_goals exact can_i64
    · have h : u 0 = 161 := h
      have e1 : selF binL64 (.lit 0) 161 = can64 (bi (.far .sub .f64) x64 y64) := rfl
      have e2 : selF ([97, 98, 99, 100, 101, 102, 160, 161, 162, 163, 164, 165, 166].map fun k => (k, .lit 0)) (.lit 500) 161 = .lit 0 := rfl
      rw [h, e1, e2]
      clear e1 e2
      refine ⟨?_, rfl⟩
      simp only [can64, pick64, nan64, x64, y64, o64, sign64, tr, bi, no, un, Flt.u64, Flt.i64, v, den_iteP, den_unP, E.prop]; simp only [E.den, Bi.den, Un.den]
      rw [iteP_neg (by decide), iteP_pos (by decide)]
      all_goals exact can_i64
    · have h : u 0 = 162 := h
      have e1 : selF binL64 (.lit 0) 162 = can64 (bi (.far .mul .f64) x64 y64) := rfl
      have e2 : selF ([97, 98, 99, 100, 101, 102, 160, 161, 162, 163, 164, 165, 166].map fun k => (k, .lit 0)) (.lit 500) 162 = .lit 0 := rfl
      rw [h, e1, e2]
      clear e1 e2
      refine ⟨?_, rfl⟩
      simp only [can64, pick64, nan64, x64, y64, o64, sign64, tr, bi, no, un, Flt.u64, Flt.i64, v, den_iteP, den_unP, E.prop]; simp only [E.den, Bi.den, Un.den]
      rw [iteP_neg (by decide), iteP_neg (by decide), iteP_pos (by decide)]
      all_goals exact can_i64
    · have h : u 0 = 163 := h
      have e1 : selF binL64 (.lit 0) 163 = can64 (bi (.far .quo .f64) x64 y64) := rfl
      have e2 : selF ([97, 98, 99, 100, 101, 102, 160, 161, 162, 163, 164, 165, 166].map fun k => (k, .lit 0)) (.lit 500) 163 = .lit 0 := rfl
      rw [h, e1, e2]
      clear e1 e2
      refine ⟨?_, rfl⟩
      simp only [can64, pick64, nan64, x64, y64, o64, sign64, tr, bi, no, un, Flt.u64, Flt.i64, v, den_iteP, den_unP, E.prop]; simp only [E.den, Bi.den, Un.den]
      rw [iteP_neg (by decide), iteP_neg (by decide), iteP_neg (by decide), iteP_pos (by decide)]
      all_goals exact can_i64
    · have h : u 0 = 164 := h
      have e1 : selF binL64 (.lit 0) 164 = pick64 true := rfl
      have e2 : selF ([97, 98, 99, 100, 101, 102, 160, 161, 162, 163, 164, 165, 166].map fun k => (k, .lit 0)) (.lit 500) 164 = .lit 0 := rfl
      rw [h, e1, e2]
      clear e1 e2
      refine ⟨?_, rfl⟩
      simp only [can64, pick64, nan64, x64, y64, o64, sign64, tr, bi, no, un, Flt.u64, Flt.i64, v, den_iteP, den_unP, E.prop]; simp only [E.den, Bi.den, Un.den]
      rw [iteP_neg (by decide), iteP_neg (by decide), iteP_neg (by decide), iteP_neg (by decide), iteP_pos (by decide)]
      all_goals exact pick_i64
    · have h : u 0 = 165 := h
      have e1 : selF binL64 (.lit 0) 165 = pick64 false := rfl
      have e2 : selF ([97, 98, 99, 100, 101, 102, 160, 161, 162, 163, 164, 165, 166].map fun k => (k, .lit 0)) (.lit 500) 165 = .lit 0 := rfl
      rw [h, e1, e2]
      clear e1 e2
      refine ⟨?_, rfl⟩
      simp only [can64, pick64, nan64, x64, y64, o64, sign64, tr, bi, no, un, Flt.u64, Flt.i64, v, den_iteP, den_unP, E.prop]; simp only [E.den, Bi.den, Un.den]
      rw [iteP_neg (by decide), iteP_neg (by decide), iteP_neg (by decide), iteP_neg (by decide), iteP_neg (by decide), iteP_pos (by decide)]
      all_goals exact pick_i64
    · have h : u 0 = 166 := h
      have e1 : selF binL64 (.lit 0) 166 = bi (.bits .or .i64) (bi (.bits .andNot .i64) (v 1) sign64) (bi (.bits .and .i64) (v 2) sign64) := rfl
      have e2 : selF ([97, 98, 99, 100, 101, 102, 160, 161, 162, 163, 164, 165, 166].map fun k => (k, .lit 0)) (.lit 500) 166 = .lit 0 := rfl
      rw [h, e1, e2]
      clear e1 e2
      refine ⟨?_, rfl⟩
      simp only [can64, pick64, nan64, x64, y64, o64, sign64, tr, bi, no, un, Flt.u64, Flt.i64, v, den_iteP, den_unP, E.prop]; simp only [E.den, Bi.den, Un.den]
      rw [iteP_neg (by decide), iteP_neg (by decide), iteP_neg (by decide), iteP_neg (by decide), iteP_neg (by decide), iteP_neg (by decide)]
      all_goals exact copy_i64 (u 1) (u 2)
  · intro h1 h2 h3 h4
    rw [selF_none binL64 _ _ (by simp [binL64]; omega), selF_none ([97, 98, 99, 100, 101, 102, 160, 161, 162, 163, 164, 165, 166].map fun k => (k, .lit 0)) _ _ (by simp; omega)]
    exact ⟨rfl, rfl⟩
  · intro h1 h2 h3
    rw [selF_none binL64 _ _ (by simp [binL64]; omega), selF_none ([97, 98, 99, 100, 101, 102, 160, 161, 162, 163, 164, 165, 166].map fun k => (k, .lit 0)) _ _ (by simp; omega)]
    exact ⟨rfl, rfl⟩
  · intro h1
    rw [selF_none binL64 _ _ (by simp [binL64]; omega), selF_none ([97, 98, 99, 100, 101, 102, 160, 161, 162, 163, 164, 165, 166].map fun k => (k, .lit 0)) _ _ (by simp; omega)]
    exact ⟨rfl, rfl⟩
end Go.Proofs.Ytnodelimomljbaa.PlainRefG
