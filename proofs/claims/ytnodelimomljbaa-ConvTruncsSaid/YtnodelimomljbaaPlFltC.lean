/- The same over whole numbers that are the words: both formats. No condition. -/
import Derived.Test.YtnodelimomljbaaPlFltB
import Derived.Test.YtnodelimomljbaaSxP
namespace Go.Sx
open Go Ieee

def kM : FloatKind → Int
  | .f32 => 2147483648
  | .f64 => 9223372036854775808
def kI : FloatKind → Int
  | .f32 => 2139095040
  | .f64 => 9218868437227405312
/-- the magnitude's rung -/
def mg (k : FloatKind) (x : Int) : Int := if kM k ≤ x then x - kM k else x
/-- the place among all -/
def ky (k : FloatKind) (x : Int) : Int := if kM k ≤ x then kM k - x else x
def one (k : FloatKind) : Int := match k with
  | .f32 => 1065353216
  | .f64 => 4607182418800017408
theorem fmt_e (k : FloatKind) : 2 ≤ k.format.exponentBits := by cases k <;> decide
theorem fmt_M (k : FloatKind) : ((k.format.signWeight : Nat) : Int) = kM k := by cases k <;> decide
theorem fmt_I (k : FloatKind) : ((k.format.infRung : Nat) : Int) = kI k := by cases k <;> decide
theorem top_M (k : FloatKind) : topF k = 2 * kM k - 1 := by cases k <;> decide
theorem M_pos (k : FloatKind) : 0 < kM k ∧ 0 < kI k ∧ kI k < kM k := by cases k <;> decide
section
variable {k : FloatKind} {x : Int} (hx : 0 ≤ x ∧ x ≤ topF k)
include hx
theorem nat_lt : x.toNat < 2 * k.format.signWeight := by
  have := fmt_M k; have := top_M k; omega
theorem nat_mod : ((x.toNat % k.format.signWeight : Nat) : Int) = mg k x ∧ ((x.toNat / k.format.signWeight % 2 == 1) = decide (kM k ≤ x)) := by
  have h1 := fmt_M k; have h2 := top_M k; have h3 := (M_pos k).1
  have hp : 0 < k.format.signWeight := by omega
  unfold mg
  by_cases h : kM k ≤ x
  · rw [if_pos h, decide_eq_true h]
    have e1 : x.toNat / k.format.signWeight = 1 := by
      rw [Nat.div_eq_iff hp]; omega
    have e2 := Nat.div_add_mod x.toNat k.format.signWeight
    rw [e1] at e2 ⊢
    exact ⟨by omega, rfl⟩
  · rw [if_neg h, decide_eq_false h]
    have e1 : x.toNat / k.format.signWeight = 0 := Nat.div_eq_of_lt (by omega)
    have e2 := Nat.div_add_mod x.toNat k.format.signWeight
    rw [e1] at e2 ⊢
    exact ⟨by omega, rfl⟩
theorem mg_pos : 0 ≤ mg k x ∧ mg k x < kM k := by
  have := top_M k; unfold mg; split <;> omega
theorem key_nat : keyOf k.format x.toNat = ky k x := by
  obtain ⟨h1, h2⟩ := nat_mod hx
  unfold keyOf ky
  rw [h1, h2]
  unfold mg
  by_cases h : kM k ≤ x
  · simp [h]; omega
  · simp [h]
theorem nan_nat : k.format.infRung < x.toNat % k.format.signWeight ↔ kI k < mg k x := by
  have h1 := (nat_mod hx).1; have h2 := fmt_I k; omega
theorem fin_nat : x.toNat % k.format.signWeight < k.format.infRung ↔ mg k x < kI k := by
  have h1 := (nat_mod hx).1; have h2 := fmt_I k; omega
theorem zero_nat : x.toNat % k.format.signWeight = 0 ↔ mg k x = 0 := by
  have h1 := (nat_mod hx).1; omega
end
/-- how two floats stand -/
theorem ford_eq {k : FloatKind} {x y : Int} (hx : 0 ≤ x ∧ x ≤ topF k) (hy : 0 ≤ y ∧ y ≤ topF k) :
    fordI k x y = if kI k < mg k x ∨ kI k < mg k y then 3 else if ky k x = ky k y then 0 else if ky k x < ky k y then 1 else 2 := by
  unfold fordI
  by_cases h : kI k < mg k x ∨ kI k < mg k y
  · rw [if_pos h, order_none _ (fmt_e k) (h.imp (nan_nat hx).2 (nan_nat hy).2)]
  · rw [if_neg h]
    have h1 : x.toNat % k.format.signWeight ≤ k.format.infRung := Nat.le_of_not_lt fun hh => h (.inl ((nan_nat hx).1 hh))
    have h2 : y.toNat % k.format.signWeight ≤ k.format.infRung := Nat.le_of_not_lt fun hh => h (.inr ((nan_nat hy).1 hh))
    rw [order_key _ (fmt_e k) h1 h2, key_nat hx, key_nat hy]
    simp only [compare, compareOfLessAndEq]
    by_cases h3 : ky k x < ky k y
    · rw [if_pos h3, if_neg (by omega), if_pos h3]
    · rw [if_neg h3, if_neg h3]
      by_cases h4 : ky k x = ky k y
      · rw [if_pos h4, if_pos h4]
      · rw [if_neg h4, if_neg h4]

/-! ### arithmetic -/
theorem far_add_comm (k : FloatKind) (x y : Int) : farI .add k x y = farI .add k y x := by unfold farI; rw [add_comm']
theorem far_mul_comm (k : FloatKind) (x y : Int) : farI .mul k x y = farI .mul k y x := by unfold farI; rw [mul_comm']
theorem far_sub_self {k : FloatKind} {x : Int} (hx : 0 ≤ x ∧ x ≤ topF k) : farI .sub k x x = if mg k x < kI k then 0 else -1 := by
  unfold farI
  simp only
  rw [sub_self' _ (fmt_e k) (nat_lt hx)]
  by_cases h : mg k x < kI k
  · rw [if_pos h, if_pos ((fin_nat hx).2 h)]; rfl
  · rw [if_neg h, if_neg (fun hh => h ((fin_nat hx).1 hh))]
theorem word_zero (k : FloatKind) : k.format.word false 0 = 0 ∧ ((k.format.word true 0 : Nat) : Int) = kM k := by cases k <;> decide
theorem far_add_zero {k : FloatKind} {x : Int} (hx : 0 ≤ x ∧ x ≤ topF k) (t : Bool) : farI .add k x (if t then kM k else 0) =
    if kI k < mg k x then -1 else if mg k x = 0 then (if kM k ≤ x ∧ t = true then kM k else 0) else x := by
  have hz : (if t then kM k else 0 : Int).toNat = k.format.word t 0 := by
    obtain ⟨h1, h2⟩ := word_zero k
    cases t <;> simp <;> omega
  unfold farI
  simp only
  rw [hz, add_zero' _ (fmt_e k) (nat_lt hx)]
  by_cases h : kI k < mg k x
  · rw [if_pos h, if_pos ((nan_nat hx).2 h)]
  · rw [if_neg h, if_neg (fun hh => h ((nan_nat hx).1 hh))]
    by_cases h0 : mg k x = 0
    · rw [if_pos h0, if_pos ((zero_nat hx).2 h0), (nat_mod hx).2]
      obtain ⟨h1, h2⟩ := word_zero k
      by_cases hs : kM k ≤ x <;> cases t <;> simp [hs] <;> omega
    · rw [if_neg h0, if_neg (fun hh => h0 ((zero_nat hx).1 hh))]
      simp only; omega
theorem far_sub_zero {k : FloatKind} {x : Int} (hx : 0 ≤ x ∧ x ≤ topF k) : farI .sub k x 0 = if kI k < mg k x then -1 else x := by
  have h : farI .add k x (kM k) = if kI k < mg k x then -1 else if mg k x = 0 then (if kM k ≤ x then kM k else 0) else x := by
    have := far_add_zero hx true
    simpa using this
  have e : farI .sub k x 0 = farI .add k x (kM k) := by
    have : k.format.sub x.toNat (0 : Int).toNat = k.format.add x.toNat (kM k).toNat := by
      unfold Format.sub Format.add
      have : (k.format.read (0 : Int).toNat).opposite = k.format.read (kM k).toNat := by cases k <;> decide
      rw [this]
    unfold farI
    simp only
    rw [this]
  rw [e, h]
  by_cases h1 : kI k < mg k x
  · rw [if_pos h1, if_pos h1]
  · rw [if_neg h1, if_neg h1]
    by_cases h0 : mg k x = 0
    · rw [if_pos h0]
      unfold mg at h0
      split at h0
      · rename_i hs; rw [if_pos hs]; omega
      · rename_i hs; rw [if_neg hs]; omega
    · rw [if_neg h0]
theorem far_mul_one {k : FloatKind} {x : Int} (hx : 0 ≤ x ∧ x ≤ topF k) : farI .mul k x (one k) = if kI k < mg k x then -1 else x := by
  unfold farI
  simp only
  have ho : ∃ j : Nat, k.format.read (one k).toNat = .number false (2 ^ j) (-(j : Int)) := by
    cases k
    · exact ⟨23, read_one32⟩
    · exact ⟨52, read_one64⟩
  obtain ⟨j, ho⟩ := ho
  rw [mul_pow _ (fmt_e k) (nat_lt hx) ho]
  by_cases h : kI k < mg k x
  · rw [if_pos h, if_pos ((nan_nat hx).2 h)]
  · rw [if_neg h, if_neg (fun hh => h ((nan_nat hx).1 hh))]
    simp only; omega
theorem far_div_one {k : FloatKind} {x : Int} (hx : 0 ≤ x ∧ x ≤ topF k) : farI .quo k x (one k) = if kI k < mg k x then -1 else x := by
  unfold farI
  simp only
  have ho : k.format.read (one k).toNat = .number false (2 ^ k.format.fractionBits) (-(k.format.fractionBits : Int)) := by
    cases k
    · exact read_one32
    · exact read_one64
  rw [div_pow _ (fmt_e k) (nat_lt hx) ho]
  by_cases h : kI k < mg k x
  · rw [if_pos h, if_pos ((nan_nat hx).2 h)]
  · rw [if_neg h, if_neg (fun hh => h ((nan_nat hx).1 hh))]
    simp only; omega
theorem far_div_self {k : FloatKind} {x : Int} (hx : 0 ≤ x ∧ x ≤ topF k) : farI .quo k x x = if mg k x < kI k ∧ mg k x ≠ 0 then one k else -1 := by
  unfold farI
  simp only
  rw [div_self' _ (fmt_e k) (nat_lt hx)]
  by_cases h : mg k x < kI k ∧ mg k x ≠ 0
  · rw [if_pos h, if_pos ⟨(fin_nat hx).2 h.1, fun hh => h.2 ((zero_nat hx).1 hh)⟩]
    cases k
    · show ((Ieee.single.nearest false 1 0 : Nat) : Int) = _; rw [one32]; rfl
    · show ((Ieee.double.nearest false 1 0 : Nat) : Int) = _; rw [one64]; rfl
  · rw [if_neg h, if_neg (fun hh => h ⟨(fin_nat hx).1 hh.1, fun h0 => hh.2 ((zero_nat hx).2 h0)⟩)]
end Go.Sx
