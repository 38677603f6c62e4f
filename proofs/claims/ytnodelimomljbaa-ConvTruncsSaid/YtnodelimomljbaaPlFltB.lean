/- Sums, products, quotients of floats: in either row; with noughts and ones. No condition. -/
import Derived.Test.YtnodelimomljbaaPlFltA
namespace Go.Sx
open Ieee

theorem sum_comm (a b : Datum) : a.sum b = b.sum a := by
  cases a with
  | nan s t => cases b <;> rfl
  | infinity s =>
    cases b with
    | nan => rfl
    | number => rfl
    | infinity t => cases s <;> cases t <;> rfl
  | number s m i =>
    cases b with
    | nan => rfl
    | infinity => rfl
    | number t n j =>
      simp only [Datum.sum]
      rw [Int.min_comm j i, Int.add_comm (Ieee.signed t n _), Bool.and_comm t s]
theorem product_comm (a b : Datum) : a.product b = b.product a := by
  cases a with
  | nan s t => cases b <;> rfl
  | infinity s =>
    cases b with
    | nan => rfl
    | number t n j => simp only [Datum.product]
    | infinity t => simp only [Datum.product]; rw [Bool.xor_comm]
  | number s m i =>
    cases b with
    | nan => rfl
    | infinity => simp only [Datum.product]
    | number t n j => simp only [Datum.product]; rw [Bool.xor_comm, Nat.mul_comm, Int.add_comm]
theorem add_comm' (f : Format) (x y : Nat) : f.add x y = f.add y x := by unfold Format.add; rw [sum_comm]
theorem mul_comm' (f : Format) (x y : Nat) : f.mul x y = f.mul y x := by unfold Format.mul; rw [product_comm]

/-- what a word that is a number stands for -/
theorem read_cases (f : Format) (he : 2 ≤ f.exponentBits) {w : Nat} (hw : w < 2 * f.signWeight) :
    (∃ s m i, f.read w = .number s m i ∧ f.leastPlace ≤ i ∧ m < 2 * f.binade ∧ f.nearest s m i = w ∧ w % f.signWeight < f.infRung ∧ (w / f.signWeight % 2 == 1) = s ∧ (m = 0 ↔ w % f.signWeight = 0)) ∨
    (∃ s, f.read w = .infinity s ∧ f.word s f.infRung = w ∧ w % f.signWeight = f.infRung) ∨
    (∃ s t, f.read w = .nan s t ∧ f.infRung < w % f.signWeight) := by
  rcases Nat.lt_trichotomy (w % f.signWeight) f.infRung with h | h | h
  · refine .inl ⟨_, _, _, read_fin f h, place_ge f _, ?_, ?_, h, rfl, ?_⟩
    · unfold magOf
      have := binade_pos f
      have := Nat.mod_lt (w % f.signWeight) this
      split <;> omega
    · have := write_read f he hw (Nat.le_of_lt h)
      rw [read_fin f h] at this
      exact this
    · unfold magOf
      have := binade_pos f
      split <;> omega
  · refine .inr (.inl ⟨_, read_inf f he h, ?_, h⟩)
    have := write_read f he hw (Nat.le_of_eq h)
    rw [read_inf f he h] at this
    exact this
  · exact .inr (.inr ⟨_, _, read_nan f he h, h⟩)

theorem sub_self' (f : Format) (he : 2 ≤ f.exponentBits) {w : Nat} (hw : w < 2 * f.signWeight) : f.sub w w = if w % f.signWeight < f.infRung then some 0 else none := by
  unfold Format.sub
  rcases read_cases f he hw with ⟨s, m, i, h, _, _, _, hl, _⟩ | ⟨s, h, _, hl⟩ | ⟨s, t, h, hl⟩
  · rw [h, if_pos hl]
    have hz : Ieee.signed s m 0 + Ieee.signed (!s) m 0 = 0 := by
      unfold Ieee.signed; cases s <;> simp <;> omega
    simp only [Datum.opposite, Datum.sum, Int.min_self, Int.sub_self, Int.toNat_zero, hz, if_true, Option.map_some, Int.natAbs_zero, Option.some.injEq]
    show f.nearest _ 0 _ = 0
    unfold Format.nearest
    rw [if_pos rfl]
    unfold Format.word
    cases s <;> rfl
  · rw [h, if_neg (by omega)]
    cases s <;> rfl
  · rw [h, if_neg (by omega)]; rfl
theorem nat_signed (s : Bool) (m k : Nat) : (Ieee.signed s m k).natAbs = m * 2 ^ k ∧ (m ≠ 0 → (decide (Ieee.signed s m k < 0) = s ∧ Ieee.signed s m k ≠ 0)) ∧ (m = 0 → Ieee.signed s m k = 0) := by
  have hp : 0 < 2 ^ k := Nat.two_pow_pos k
  unfold Ieee.signed
  rw [Nat.shiftLeft_eq]
  refine ⟨?_, fun h => ?_, fun h => ?_⟩
  · generalize m * 2 ^ k = z
    cases s
    · show ((z : Nat) : Int).natAbs = z; omega
    · show (-((z : Nat) : Int)).natAbs = z; omega
  · have : 0 < m * 2 ^ k := Nat.mul_pos (by omega) hp
    generalize m * 2 ^ k = z at *
    cases s
    · show decide (((z : Nat) : Int) < 0) = false ∧ ((z : Nat) : Int) ≠ 0
      exact ⟨decide_eq_false (by omega), by omega⟩
    · show decide (-((z : Nat) : Int) < 0) = true ∧ -((z : Nat) : Int) ≠ 0
      exact ⟨decide_eq_true (by omega), by omega⟩
  · subst h
    rw [Nat.zero_mul]
    cases s <;> rfl
/-- a nought added -/
theorem add_zero' (f : Format) (he : 2 ≤ f.exponentBits) {w : Nat} (hw : w < 2 * f.signWeight) (t : Bool) : f.add w (f.word t 0) =
    if f.infRung < w % f.signWeight then none else if w % f.signWeight = 0 then some (f.word ((w / f.signWeight % 2 == 1) && t) 0) else some w := by
  have hb := binade_le f he
  have hp := binade_pos f
  have hs := f.infRung_lt
  have hz : f.read (f.word t 0) = .number t 0 f.leastPlace := by
    obtain ⟨h1, h2⟩ := mod_word f t (r := 0) (by omega)
    rw [read_fin f (by rw [h1]; omega), h1, h2]
    unfold magOf placeOf
    rw [if_pos hp, if_pos hp]
  unfold Format.add
  rw [hz]
  rcases read_cases f he hw with ⟨s, m, i, h, hi, _, hn, hl, hsg, hm⟩ | ⟨s, h, hn, hl⟩ | ⟨s, u, h, hl⟩
  · rw [h, if_neg (by omega)]
    have e0 : Ieee.signed t 0 (f.leastPlace - min i f.leastPlace).toNat = 0 := (nat_signed t 0 _).2.2 rfl
    obtain ⟨n1, n2, n3⟩ := nat_signed s m (i - min i f.leastPlace).toNat
    simp only [Datum.sum, e0, Int.add_zero, Option.map_some]
    by_cases h0 : m = 0
    · rw [if_pos (hm.1 h0)]
      rw [n3 h0, hsg]
      simp only [if_true, Int.natAbs_zero, Option.some.injEq]
      show f.nearest _ 0 _ = _
      unfold Format.nearest
      rw [if_pos rfl]
    · rw [if_neg (fun hh => h0 (hm.2 hh))]
      obtain ⟨a1, a2⟩ := n2 h0
      rw [if_neg a2]
      congr 1
      show f.nearest _ _ _ = w
      rw [n1, a1]
      have e1 : min i f.leastPlace = i - ((i - min i f.leastPlace).toNat : Nat) := by omega
      conv => lhs; rw [e1]
      have e2 : (i - (i - ((i - min i f.leastPlace).toNat : Nat))).toNat = (i - min i f.leastPlace).toNat := by omega
      rw [e2, nearest_scale]; exact hn
  · rw [h, if_neg (by omega), if_neg (by omega)]
    show some (f.word s f.infRung) = some w
    rw [hn]
  · rw [h, if_pos hl]; rfl
theorem read_one64 : Ieee.double.read 4607182418800017408 = .number false (2 ^ 52) (-52) := by decide
theorem read_one32 : Ieee.single.read 1065353216 = .number false (2 ^ 23) (-23) := by decide
theorem one64 : Ieee.double.nearest false 1 0 = 4607182418800017408 := by decide
theorem one32 : Ieee.single.nearest false 1 0 = 1065353216 := by decide
theorem mul_pow (f : Format) (he : 2 ≤ f.exponentBits) {w o k : Nat} (hw : w < 2 * f.signWeight) (ho : f.read o = .number false (2 ^ k) (-(k : Int))) : f.mul w o = if f.infRung < w % f.signWeight then none else some w := by
  unfold Format.mul
  rw [ho]
  rcases read_cases f he hw with ⟨s, m, i, h, hi, _, hn, hl, hsg, hm⟩ | ⟨s, h, hn, hl⟩ | ⟨s, u, h, hl⟩
  · rw [h, if_neg (by omega)]
    simp only [Datum.product, Bool.bne_false, Option.map_some, Option.some.injEq]
    show f.nearest _ _ _ = w
    rw [show i + -(k : Int) = i - (k : Nat) by omega, nearest_scale]
    simpa using hn
  · rw [h, if_neg (by omega)]
    have : (2 : Nat) ^ k ≠ 0 := by have := Nat.two_pow_pos k; omega
    simp only [Datum.product, this, if_false, Option.map_some, Option.some.injEq]
    show f.word _ _ = w
    simpa using hn
  · rw [h, if_pos hl]; rfl
theorem div_pow (f : Format) (he : 2 ≤ f.exponentBits) {w o : Nat} (hw : w < 2 * f.signWeight) (ho : f.read o = .number false (2 ^ f.fractionBits) (-(f.fractionBits : Int))) : f.div w o = if f.infRung < w % f.signWeight then none else some w := by
  unfold Format.div
  rw [ho]
  have hk : (2 : Nat) ^ f.fractionBits ≠ 0 := by have := Nat.two_pow_pos f.fractionBits; omega
  rcases read_cases f he hw with ⟨s, m, i, h, hi, hmb, hn, hl, hsg, hm⟩ | ⟨s, h, hn, hl⟩ | ⟨s, u, h, hl⟩
  · rw [h, if_neg (by omega)]
    simp only [Datum.quotient, hk, if_false, Option.map_some, Option.some.injEq]
    have hlog : m.log2 ≤ f.fractionBits := by
      by_cases h0 : m = 0
      · subst h0; simp
      · have := (Nat.log2_lt h0 (k := f.fractionBits + 1)).2 (by rw [Nat.pow_succ]; have : f.binade = 2 ^ f.fractionBits := rfl; omega)
        omega
    have hl2 : (2 ^ f.fractionBits).log2 = f.fractionBits := Nat.log2_two_pow
    rw [hl2]
    generalize hmo : f.fractionBits + 2 + f.fractionBits - m.log2 = more
    have hmore : f.fractionBits + 2 ≤ more := by omega
    have e1 : m <<< more = (m * 2 ^ (more - f.fractionBits)) * 2 ^ f.fractionBits := by
      rw [Nat.shiftLeft_eq, Nat.mul_assoc, ← Nat.pow_add]; congr 2; omega
    rw [e1, Nat.mul_div_cancel _ (Nat.two_pow_pos _), Nat.mul_mod_left]
    show f.nearest _ _ _ = w
    have e2 : 2 * (m * 2 ^ (more - f.fractionBits)) + ((0 : Nat) != 0).toNat = m * 2 ^ (more - f.fractionBits + 1) := by
      rw [Nat.pow_succ]; simp; rw [Nat.mul_comm 2, Nat.mul_assoc]
    rw [e2, show i - -(f.fractionBits : Int) - (more : Int) - 1 = i - ((more - f.fractionBits + 1 : Nat) : Int) by omega, nearest_scale]
    simpa using hn
  · rw [h, if_neg (by omega)]
    simp only [Datum.quotient, Option.map_some, Option.some.injEq]
    show f.word _ _ = w
    simpa using hn
  · rw [h, if_pos hl]; rfl
theorem div_self' (f : Format) (he : 2 ≤ f.exponentBits) {w : Nat} (hw : w < 2 * f.signWeight) : f.div w w = if w % f.signWeight < f.infRung ∧ w % f.signWeight ≠ 0 then some (f.nearest false 1 0) else none := by
  unfold Format.div
  rcases read_cases f he hw with ⟨s, m, i, h, hi, hmb, hn, hl, hsg, hm⟩ | ⟨s, h, hn, hl⟩ | ⟨s, u, h, hl⟩
  · rw [h]
    by_cases h0 : m = 0
    · rw [if_neg (fun hh => hh.2 (hm.1 h0))]
      simp only [Datum.quotient, h0, if_true]; rfl
    · rw [if_pos ⟨hl, fun hh => h0 (hm.2 hh)⟩]
      simp only [Datum.quotient, h0, if_false, Option.map_some, Option.some.injEq]
      generalize hmo : f.fractionBits + 2 + m.log2 - m.log2 = more
      rw [Nat.shiftLeft_eq, Nat.mul_div_cancel_left _ (by omega), Nat.mul_mod_right]
      show f.nearest _ _ _ = _
      have e2 : 2 * 2 ^ more + ((0 : Nat) != 0).toNat = 1 * 2 ^ (more + 1) := by rw [Nat.pow_succ]; simp; rw [Nat.mul_comm]
      rw [e2, show i - i - (more : Int) - 1 = 0 - ((more + 1 : Nat) : Int) by omega, nearest_scale]
      simp
  · rw [h, if_neg (by omega)]; rfl
  · rw [h, if_neg (by omega)]; rfl
end Go.Sx
