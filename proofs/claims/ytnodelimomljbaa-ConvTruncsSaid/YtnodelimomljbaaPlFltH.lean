/- The lesser and the greater of two floats; what is no number. No condition. -/
import Derived.Test.YtnodelimomljbaaPlFltG
namespace Go.Sx
open Go Ieee

theorem far_nan {op : BinOp} {k : FloatKind} {x y : Int} (hx : 0 ≤ x ∧ x ≤ topF k) (hy : 0 ≤ y ∧ y ≤ topF k) (h : kI k < mg k x ∨ kI k < mg k y) : farI op k x y = -1 := by
  have hd : (∃ s t, k.format.read x.toNat = .nan s t) ∨ ∃ s t, k.format.read y.toNat = .nan s t := by
    rcases h with h | h
    · exact .inl ⟨_, _, read_nan _ (fmt_e k) ((nan_nat hx).2 h)⟩
    · exact .inr ⟨_, _, read_nan _ (fmt_e k) ((nan_nat hy).2 h)⟩
  have e1 : k.format.add x.toNat y.toNat = none := by
    unfold Format.add
    rcases hd with ⟨s, t, hd⟩ | ⟨s, t, hd⟩
    · rw [hd]; rfl
    · rw [hd]; cases k.format.read x.toNat <;> rfl
  have e2 : k.format.sub x.toNat y.toNat = none := by
    unfold Format.sub
    rcases hd with ⟨s, t, hd⟩ | ⟨s, t, hd⟩
    · rw [hd]; rfl
    · rw [hd]; cases k.format.read x.toNat <;> rfl
  have e3 : k.format.mul x.toNat y.toNat = none := by
    unfold Format.mul
    rcases hd with ⟨s, t, hd⟩ | ⟨s, t, hd⟩
    · rw [hd]; rfl
    · rw [hd]; cases k.format.read x.toNat <;> rfl
  have e4 : k.format.div x.toNat y.toNat = none := by
    unfold Format.div
    rcases hd with ⟨s, t, hd⟩ | ⟨s, t, hd⟩
    · rw [hd]; rfl
    · rw [hd]; cases k.format.read x.toNat <;> rfl
  unfold farI
  cases op <;> simp only [e1, e2, e3, e4]
/-- what a word is -/
theorem dec_facts {k : FloatKind} {x : Int} (hx : 0 ≤ x ∧ x ≤ topF k) (hn : mg k x ≤ kI k) :
    (k.decode x.toNat).isNaN = false ∧ (∀ g : Bool, (k.decode x.toNat == .infinity g) = decide (mg k x = kI k ∧ decide (kM k ≤ x) = g)) ∧ (k.decode x.toNat).isZero = decide (mg k x = 0) ∧ (k.decode x.toNat).neg = decide (kM k ≤ x) := by
  have hM := M_pos k
  have hs := (nat_mod hx).2
  show (k.format.read x.toNat).isNaN = false ∧ (∀ g : Bool, (k.format.read x.toNat == .infinity g) = _) ∧ (k.format.read x.toNat).isZero = _ ∧ (k.format.read x.toNat).neg = _
  rcases read_cases k.format (fmt_e k) (nat_lt hx) with ⟨s, m, i, h, _, _, _, hl, hsg, hm⟩ | ⟨s, h, _, hl⟩ | ⟨s, t, h, hl⟩
  · have hl' := (fin_nat hx).1 hl
    rw [hs] at hsg
    rw [h]
    refine ⟨rfl, fun g => ?_, ?_, ?_⟩
    · rw [decide_eq_false (fun hh => by omega)]; rfl
    · have e : (Datum.number s m i).isZero = decide (m = 0) := by
        unfold Datum.isZero
        cases m <;> rfl
      rw [e]
      have := zero_nat hx
      by_cases h0 : m = 0
      · rw [decide_eq_true h0, decide_eq_true (this.1 (hm.1 h0))]
      · rw [decide_eq_false h0, decide_eq_false (fun hh => h0 (hm.2 (this.2 hh)))]
    · exact hsg.symm
  · have e1 := (nat_mod hx).1
    have e2 := fmt_I k
    have hk : mg k x = kI k := by omega
    rw [read_inf _ (fmt_e k) hl, hs]
    refine ⟨rfl, fun g => ?_, ?_, rfl⟩
    · generalize decide (kM k ≤ x) = c
      have h1 : ∀ c g : Bool, (Datum.infinity c == Datum.infinity g) = decide (c = g) := by decide
      rw [h1]
      by_cases hc : c = g
      · rw [decide_eq_true hc, decide_eq_true (show mg k x = kI k ∧ c = g from ⟨hk, hc⟩)]
      · rw [decide_eq_false hc, decide_eq_false (show ¬ (mg k x = kI k ∧ c = g) from fun hh => hc hh.2)]
    · rw [decide_eq_false (show ¬ mg k x = 0 by omega)]; rfl
  · have := (nan_nat hx).1 hl; omega
theorem enc_inf (g : Bool) : ((FloatKind.f64.encode (.infinity g) : Nat) : Int) = if g then kM .f64 + kI .f64 else kI .f64 := by cases g <;> decide
/-- the place among all, of the noughts the negative one below -/
def kz (k : FloatKind) (x : Int) : Int := if kM k ≤ x then kM k - x - 1 else x
theorem fpick_min {x y : Int} (hx : 0 ≤ x ∧ x ≤ topF .f64) (hy : 0 ≤ y ∧ y ≤ topF .f64) (nx : mg .f64 x ≤ kI .f64) (ny : mg .f64 y ≤ kI .f64) : fpickI true x y = if kz .f64 x < kz .f64 y then x else y := by
  obtain ⟨a1, a2, a3, a4⟩ := dec_facts hx nx
  obtain ⟨b1, b2, b3, b4⟩ := dec_facts hy ny
  have ho := order_key Ieee.double (by decide) (x := x.toNat) (y := y.toNat) (Nat.le_of_not_lt fun hh => by have := (nan_nat (k := .f64) hx).1 hh; omega) (Nat.le_of_not_lt fun hh => by have := (nan_nat (k := .f64) hy).1 hh; omega)
  have kx : keyOf Ieee.double x.toNat = ky .f64 x := key_nat (k := .f64) hx
  have ky' : keyOf Ieee.double y.toNat = ky .f64 y := key_nat (k := .f64) hy
  rw [kx, ky'] at ho
  have ho : (FloatKind.f64.decode x.toNat).order (FloatKind.f64.decode y.toNat) = some (compare (ky .f64 x) (ky .f64 y)) := ho
  have hc : (some (compare (ky .f64 x) (ky .f64 y)) == some Ordering.lt) = decide (ky .f64 x < ky .f64 y) := by
    rcases Int.lt_trichotomy (ky .f64 x) (ky .f64 y) with h | h | h
    · rw [cmp_lt h, decide_eq_true h]; rfl
    · rw [cmp_eq h, decide_eq_false (by omega)]; rfl
    · rw [cmp_gt h, decide_eq_false (by omega)]; rfl
  unfold fpickI
  simp only [a1, b1, a2, b2, a3, b3, a4, ho, if_true, hc, Bool.or_false, Bool.false_eq_true, if_false]
  have t : topF .f64 = 18446744073709551615 := rfl
  have gx : mg .f64 x = if kM .f64 ≤ x then x - kM .f64 else x := rfl
  have gy : mg .f64 y = if kM .f64 ≤ y then y - kM .f64 else y := rfl
  have lx : ky .f64 x = if kM .f64 ≤ x then kM .f64 - x else x := rfl
  have ly : ky .f64 y = if kM .f64 ≤ y then kM .f64 - y else y := rfl
  have zx : kz .f64 x = if kM .f64 ≤ x then kM .f64 - x - 1 else x := rfl
  have zy : kz .f64 y = if kM .f64 ≤ y then kM .f64 - y - 1 else y := rfl
  rw [t] at hx hy
  rw [kM64] at *
  rw [kI64] at nx ny
  have gz := enc_inf true
  simp only [kM64, kI64, if_true] at gz ⊢
  by_cases sx : 9223372036854775808 ≤ x <;> by_cases sy : 9223372036854775808 ≤ y <;> simp only [sx, sy, if_true, if_false, decide_true, decide_false] at gx gy lx ly zx zy ⊢ <;> rw [gx, gy, lx, ly, zx, zy] <;> (simp only [Bool.or_eq_true, Bool.and_eq_true, decide_eq_true_eq, and_true, and_false, beq_self_eq_true, Bool.false_eq_true, or_false, false_or, if_false, if_true, beq_iff_eq] ) <;> (repeat' split) <;> omega
theorem fpick_max {x y : Int} (hx : 0 ≤ x ∧ x ≤ topF .f64) (hy : 0 ≤ y ∧ y ≤ topF .f64) (nx : mg .f64 x ≤ kI .f64) (ny : mg .f64 y ≤ kI .f64) : fpickI false x y = if kz .f64 y < kz .f64 x then x else y := by
  obtain ⟨a1, a2, a3, a4⟩ := dec_facts hx nx
  obtain ⟨b1, b2, b3, b4⟩ := dec_facts hy ny
  have ho := order_key Ieee.double (by decide) (x := x.toNat) (y := y.toNat) (Nat.le_of_not_lt fun hh => by have := (nan_nat (k := .f64) hx).1 hh; omega) (Nat.le_of_not_lt fun hh => by have := (nan_nat (k := .f64) hy).1 hh; omega)
  have kx : keyOf Ieee.double x.toNat = ky .f64 x := key_nat (k := .f64) hx
  have ky' : keyOf Ieee.double y.toNat = ky .f64 y := key_nat (k := .f64) hy
  rw [kx, ky'] at ho
  have ho : (FloatKind.f64.decode x.toNat).order (FloatKind.f64.decode y.toNat) = some (compare (ky .f64 x) (ky .f64 y)) := ho
  have hc : (some (compare (ky .f64 x) (ky .f64 y)) == some Ordering.gt) = decide (ky .f64 y < ky .f64 x) := by
    rcases Int.lt_trichotomy (ky .f64 x) (ky .f64 y) with h | h | h
    · rw [cmp_lt h, decide_eq_false (by omega)]; rfl
    · rw [cmp_eq h, decide_eq_false (by omega)]; rfl
    · rw [cmp_gt h, decide_eq_true h]; rfl
  unfold fpickI
  simp only [a1, b1, a2, b2, a3, b3, a4, ho, hc, Bool.or_false, Bool.false_eq_true, if_false]
  have t : topF .f64 = 18446744073709551615 := rfl
  have gx : mg .f64 x = if kM .f64 ≤ x then x - kM .f64 else x := rfl
  have gy : mg .f64 y = if kM .f64 ≤ y then y - kM .f64 else y := rfl
  have lx : ky .f64 x = if kM .f64 ≤ x then kM .f64 - x else x := rfl
  have ly : ky .f64 y = if kM .f64 ≤ y then kM .f64 - y else y := rfl
  have zx : kz .f64 x = if kM .f64 ≤ x then kM .f64 - x - 1 else x := rfl
  have zy : kz .f64 y = if kM .f64 ≤ y then kM .f64 - y - 1 else y := rfl
  rw [t] at hx hy
  rw [kM64] at *
  rw [kI64] at nx ny
  have gz := enc_inf false
  simp only [kM64, kI64, Bool.false_eq_true, if_false] at gz ⊢
  by_cases sx : 9223372036854775808 ≤ x <;> by_cases sy : 9223372036854775808 ≤ y <;> simp only [sx, sy, if_true, if_false, decide_true, decide_false] at gx gy lx ly zx zy ⊢ <;> rw [gx, gy, lx, ly, zx, zy] <;> (try simp) <;> (repeat' split) <;> omega
end Go.Sx
