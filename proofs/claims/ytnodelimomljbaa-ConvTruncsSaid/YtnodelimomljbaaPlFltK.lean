/- Floats of 32 bits as floats of 64 bits, and back; the lesser and the greater through them. No condition. -/
import Derived.Test.YtnodelimomljbaaPlFltJ
import Derived.Test.YtnodelimomljbaaPlFltE
namespace Go.Sx
open Go Ieee

/-- a rung of 32 bits among those of 64 -/
def upR (r : Nat) : Nat := if r < 2139095040 then rungOf Ieee.double (magOf Ieee.single r) (placeOf Ieee.single r) else 9218868437227405312
theorem place32 {r : Nat} (h : r < 2139095040) : -149 ≤ placeOf Ieee.single r ∧ placeOf Ieee.single r ≤ 104 := by
  unfold placeOf; rw [sLP, sBI]; split <;> omega
theorem mag32 (r : Nat) : magOf Ieee.single r < 16777216 := by
  have := mag_lt Ieee.single r; rw [sBI] at this; omega
def c925 : Nat := 925
theorem upR_val {r : Nat} (h : r < 2139095040) : val Ieee.double (upR r) = val Ieee.single r * 2 ^ c925 ∧ upR r < 9218868437227405312 := by
  have hp := place32 h
  have hm := mag32 r
  unfold upR
  rw [if_pos h]
  obtain ⟨v1, v2⟩ := val_exact Ieee.double (n := magOf Ieee.single r) (e := placeOf Ieee.single r) (by rw [dBI]; omega) (by rw [dLP]; omega) (by
    rw [dLP, dBI, dIR]
    have : (placeOf Ieee.single r - -1074).toNat + 2 ≤ 1180 := by omega
    exact Nat.le_trans (Nat.mul_le_mul_right _ this) (by decide))
  refine ⟨?_, ?_⟩
  · rw [v1]
    unfold val
    rw [Nat.mul_assoc, ← Nat.pow_add, sLP, dLP]
    have : c925 = 925 := rfl
    congr 2; omega
  · by_cases h0 : magOf Ieee.single r = 0
    · rw [h0]; unfold rungOf; simp
    · rw [if_neg h0, dIR] at v2; omega
theorem upR_lt {r q : Nat} (h : r < q) (hq : q ≤ 2139095040) : upR r < upR q := by
  obtain ⟨v1, b1⟩ := upR_val (show r < 2139095040 by omega)
  by_cases hh : q < 2139095040
  · obtain ⟨v2, _⟩ := upR_val hh
    have := val_lt Ieee.single h
    have h1 : val Ieee.double (upR r) < val Ieee.double (upR q) := by
      rw [v1, v2]; exact Nat.mul_lt_mul_of_pos_right this (Nat.two_pow_pos _)
    rcases Nat.lt_or_ge (upR r) (upR q) with h2 | h2
    · exact h2
    · rcases Nat.lt_or_eq_of_le h2 with h3 | h3
      · have := val_lt Ieee.double h3; omega
      · rw [h3] at h1; omega
  · have : upR q = 9218868437227405312 := by unfold upR; rw [if_neg hh]
    omega
theorem upR_le (r : Nat) : upR r ≤ 9218868437227405312 := by
  by_cases hh : r < 2139095040
  · exact Nat.le_of_lt (upR_val hh).2
  · unfold upR; rw [if_neg hh]; exact Nat.le_refl _
/-- back again -/
theorem rung32_of_val {ρ n : Nat} {e : Int} (hv : val Ieee.double ρ = n * 2 ^ (e + 1074).toNat) (he : -1074 ≤ e) : rungOf Ieee.single (magOf Ieee.double ρ) (placeOf Ieee.double ρ) = rungOf Ieee.single n e := by
  have hg := place_ge Ieee.double ρ
  rw [dLP] at hg
  have h1 := rung_scale Ieee.single (magOf Ieee.double ρ) (placeOf Ieee.double ρ + 1074).toNat (placeOf Ieee.double ρ)
  have h2 := rung_scale Ieee.single n (e + 1074).toNat e
  rw [← h1, ← h2]
  unfold val at hv
  rw [dLP] at hv
  rw [show placeOf Ieee.double ρ - -1074 = placeOf Ieee.double ρ + 1074 by omega] at hv
  rw [hv]
  congr 1
  omega
theorem downR {r : Nat} (h : r < 2139095040) : rungOf Ieee.single (magOf Ieee.double (upR r)) (placeOf Ieee.double (upR r)) = r := by
  have hp := place32 h
  rw [rung32_of_val (n := magOf Ieee.single r) (e := placeOf Ieee.single r) ?_ (by omega)]
  · exact rung_back Ieee.single (by rw [sIR]; omega)
  · rw [(upR_val h).1]
    unfold val
    rw [Nat.mul_assoc, ← Nat.pow_add, sLP]
    have : c925 = 925 := rfl
    congr 2; omega

theorem word64 (s : Bool) (r : Nat) : ((Ieee.double.word s r : Nat) : Int) = (if s then 9223372036854775808 else 0) + (r : Int) := by
  unfold Format.word
  rw [dSW]
  cases s
  · show (r : Int) = 0 + (r : Int); omega
  · show ((9223372036854775808 + r : Nat) : Int) = 9223372036854775808 + (r : Int); omega
theorem word32 (s : Bool) (r : Nat) : ((Ieee.single.word s r : Nat) : Int) = (if s then 2147483648 else 0) + (r : Int) := by
  unfold Format.word
  rw [sSW]
  cases s
  · show (r : Int) = 0 + (r : Int); omega
  · show ((2147483648 + r : Nat) : Int) = 2147483648 + (r : Int); omega
/-- what a finite or endless word becomes -/
def upW (x : Int) : Int := (if 2147483648 ≤ x then 9223372036854775808 else 0) + (upR (mg .f32 x).toNat : Int)
theorem dec32 {x : Int} (hx : 0 ≤ x ∧ x ≤ topF .f32) (hn : mg .f32 x ≤ kI .f32) : FloatKind.f32.decode x.toNat = if mg .f32 x < kI .f32 then .number (decide (2147483648 ≤ x)) (magOf Ieee.single (mg .f32 x).toNat) (placeOf Ieee.single (mg .f32 x).toNat) else .infinity (decide (2147483648 ≤ x)) := by
  have hs : (x.toNat / Ieee.single.signWeight % 2 == 1) = decide (2147483648 ≤ x) := (nat_mod (k := .f32) hx).2
  have hm : ((x.toNat % Ieee.single.signWeight : Nat) : Int) = mg .f32 x := (nat_mod (k := .f32) hx).1
  have hmn : x.toNat % Ieee.single.signWeight = (mg .f32 x).toNat := by omega
  rw [kI32] at hn ⊢
  by_cases h : mg .f32 x < 2139095040
  · rw [if_pos h]
    have hd : FloatKind.f32.decode x.toNat = .number _ _ _ := read_fin Ieee.single (w := x.toNat) (by rw [sIR]; omega)
    rw [hd, hs, hmn]
  · rw [if_neg h]
    have hd : FloatKind.f32.decode x.toNat = .infinity _ := read_inf Ieee.single (by decide) (w := x.toNat) (by rw [sIR]; omega)
    rw [hd, hs]
theorem conv_up {x : Int} (hx : 0 ≤ x ∧ x ≤ topF .f32) (hn : mg .f32 x ≤ kI .f32) : fconvI .f32 .f64 x = upW x := by
  have hd := dec32 hx hn
  have hp := (mg_pos hx).1
  have hu := fconv_up x
  unfold upW
  by_cases h : mg .f32 x < kI .f32
  · rw [if_pos h] at hd
    have hi : (FloatKind.f64.decode (FloatKind.f64.encode (.number (decide (2147483648 ≤ x)) (magOf Ieee.single (mg .f32 x).toNat) (placeOf Ieee.single (mg .f32 x).toNat)))).isInfinity = false := by
      cases hb : (FloatKind.f64.decode (FloatKind.f64.encode (.number (decide (2147483648 ≤ x)) (magOf Ieee.single (mg .f32 x).toNat) (placeOf Ieee.single (mg .f32 x).toNat)))).isInfinity with
      | false => rfl
      | true => exact absurd (by unfold fconvI; rw [hd]; simp only; rw [if_pos hb]) hu
    have e : fconvI .f32 .f64 x = ((Ieee.double.nearest (decide (2147483648 ≤ x)) (magOf Ieee.single (mg .f32 x).toNat) (placeOf Ieee.single (mg .f32 x).toNat) : Nat) : Int) := by
      unfold fconvI; rw [hd]; simp only; rw [if_neg (by rw [hi]; simp)]; rfl
    rw [kI32] at h
    rw [e, nearest_rung, word64]
    have : upR (mg .f32 x).toNat = rungOf Ieee.double (magOf Ieee.single (mg .f32 x).toNat) (placeOf Ieee.single (mg .f32 x).toNat) := by
      unfold upR; rw [if_pos (by omega)]
    rw [this]
    by_cases hs : 2147483648 ≤ x <;> simp [hs]
  · rw [if_neg h] at hd
    have e : fconvI .f32 .f64 x = ((Ieee.double.word (decide (2147483648 ≤ x)) Ieee.double.infRung : Nat) : Int) := by
      unfold fconvI; rw [hd]; rfl
    rw [kI32] at h hn
    rw [e, word64, dIR]
    have : upR (mg .f32 x).toNat = 9218868437227405312 := by unfold upR; rw [if_neg (by omega)]
    rw [this]
    by_cases hs : 2147483648 ≤ x <;> simp [hs]
theorem upW_facts {x : Int} (hx : 0 ≤ x ∧ x ≤ topF .f32) (_hn : mg .f32 x ≤ kI .f32) : (0 ≤ upW x ∧ upW x ≤ topF .f64) ∧ mg .f64 (upW x) = (upR (mg .f32 x).toNat : Int) ∧ mg .f64 (upW x) ≤ kI .f64 ∧ (kM .f64 ≤ upW x ↔ 2147483648 ≤ x) ∧ kz .f64 (upW x) = if 2147483648 ≤ x then -(upR (mg .f32 x).toNat : Int) - 1 else (upR (mg .f32 x).toNat : Int) := by
  have hp := (mg_pos hx).1
  have hr := upR_le (mg .f32 x).toNat
  have e : upW x = (if 2147483648 ≤ x then 9223372036854775808 else 0) + (upR (mg .f32 x).toNat : Int) := rfl
  have t : topF .f64 = 18446744073709551615 := rfl
  generalize upR (mg .f32 x).toNat = r at *
  unfold mg kz
  rw [kM64, t, kI64]
  by_cases h : 2147483648 ≤ x
  · rw [if_pos h] at e
    rw [if_pos (by omega), if_pos h, if_pos (by omega)]
    omega
  · rw [if_neg h] at e
    rw [if_neg (by omega), if_neg h, if_neg (by omega)]
    omega
theorem conv_down {x : Int} (hx : 0 ≤ x ∧ x ≤ topF .f32) (hn : mg .f32 x ≤ kI .f32) : fconvI .f64 .f32 (upW x) = x := by
  obtain ⟨g1, g2, g3, g4, _⟩ := upW_facts hx hn
  have hp := (mg_pos hx).1
  have hs : ((upW x).toNat / Ieee.double.signWeight % 2 == 1) = decide (kM .f64 ≤ upW x) := (nat_mod (k := .f64) g1).2
  have hm : (((upW x).toNat % Ieee.double.signWeight : Nat) : Int) = mg .f64 (upW x) := (nat_mod (k := .f64) g1).1
  have hmn : (upW x).toNat % Ieee.double.signWeight = upR (mg .f32 x).toNat := by omega
  have hsd : decide (kM .f64 ≤ upW x) = decide (2147483648 ≤ x) := by
    by_cases h : 2147483648 ≤ x
    · rw [decide_eq_true h, decide_eq_true (g4.2 h)]
    · rw [decide_eq_false h, decide_eq_false (fun hh => h (g4.1 hh))]
  have hback : x = (if decide (2147483648 ≤ x) = true then 2147483648 else 0) + ((mg .f32 x).toNat : Int) := by
    have : mg .f32 x = if kM .f32 ≤ x then x - kM .f32 else x := rfl
    rw [kM32] at this
    by_cases h : 2147483648 ≤ x
    · rw [if_pos h] at this; rw [if_pos (decide_eq_true h)]; omega
    · rw [if_neg h] at this; rw [if_neg (by simpa using h)]; omega
  rw [kI32] at hn
  by_cases h : mg .f32 x < 2139095040
  · have hlt := (upR_val (r := (mg .f32 x).toNat) (by omega)).2
    have hd : FloatKind.f64.decode (upW x).toNat = .number _ _ _ := read_fin Ieee.double (w := (upW x).toNat) (by rw [hmn, dIR]; exact hlt)
    rw [hs, hmn, hsd] at hd
    have e : Ieee.single.nearest (decide (2147483648 ≤ x)) (magOf Ieee.double (upR (mg .f32 x).toNat)) (placeOf Ieee.double (upR (mg .f32 x).toNat)) = Ieee.single.word (decide (2147483648 ≤ x)) (mg .f32 x).toNat := by
      rw [nearest_rung, downR (by omega)]
    have hi : (FloatKind.f32.decode (FloatKind.f32.encode (.number (decide (2147483648 ≤ x)) (magOf Ieee.double (upR (mg .f32 x).toNat)) (placeOf Ieee.double (upR (mg .f32 x).toNat))))).isInfinity = false := by
      show (Ieee.single.read (Ieee.single.nearest _ _ _)).isInfinity = false
      rw [e]; exact read_word_fin _ _ (by rw [sIR]; omega)
    unfold fconvI
    rw [hd]
    simp only
    rw [if_neg (by rw [hi]; simp)]
    show ((Ieee.single.nearest _ _ _ : Nat) : Int) = x
    rw [e, word32]; exact hback.symm
  · have hq : upR (mg .f32 x).toNat = 9218868437227405312 := by unfold upR; rw [if_neg (by omega)]
    have hd : FloatKind.f64.decode (upW x).toNat = .infinity _ := read_inf Ieee.double (by decide) (w := (upW x).toNat) (by rw [hmn, hq, dIR])
    rw [hs, hsd] at hd
    unfold fconvI
    rw [hd]
    show ((Ieee.single.word (decide (2147483648 ≤ x)) Ieee.single.infRung : Nat) : Int) = x
    rw [word32, sIR]
    omega
/-- the lesser and the greater -/
theorem kz_up {x y : Int} (hx : 0 ≤ x ∧ x ≤ topF .f32) (hy : 0 ≤ y ∧ y ≤ topF .f32) (nx : mg .f32 x ≤ kI .f32) (ny : mg .f32 y ≤ kI .f32) : kz .f64 (upW x) < kz .f64 (upW y) ↔ kz .f32 x < kz .f32 y := by
  rw [(upW_facts hx nx).2.2.2.2, (upW_facts hy ny).2.2.2.2]
  have px := (mg_pos hx).1
  have py := (mg_pos hy).1
  rw [kI32] at nx ny
  have l1 := fun h => upR_lt (r := (mg .f32 x).toNat) (q := (mg .f32 y).toNat) h (by omega)
  have l2 := fun h => upR_lt (r := (mg .f32 y).toNat) (q := (mg .f32 x).toNat) h (by omega)
  have l3 : (mg .f32 x).toNat = (mg .f32 y).toNat → upR (mg .f32 x).toNat = upR (mg .f32 y).toNat := fun h => by rw [h]
  have zx : kz .f32 x = if 2147483648 ≤ x then -(mg .f32 x) - 1 else mg .f32 x := by
    unfold kz mg; rw [kM32]; split <;> omega
  have zy : kz .f32 y = if 2147483648 ≤ y then -(mg .f32 y) - 1 else mg .f32 y := by
    unfold kz mg; rw [kM32]; split <;> omega
  rw [zx, zy]
  generalize mg .f32 x = a at *
  generalize mg .f32 y = b at *
  generalize upR a.toNat = p at *
  generalize upR b.toNat = q at *
  rcases Nat.lt_trichotomy a.toNat b.toNat with h | h | h
  · have := l1 h
    by_cases sx : 2147483648 ≤ x <;> by_cases sy : 2147483648 ≤ y <;> simp only [sx, sy, if_true, if_false] <;> omega
  · have := l3 h
    by_cases sx : 2147483648 ≤ x <;> by_cases sy : 2147483648 ≤ y <;> simp only [sx, sy, if_true, if_false] <;> omega
  · have := l2 h
    by_cases sx : 2147483648 ≤ x <;> by_cases sy : 2147483648 ≤ y <;> simp only [sx, sy, if_true, if_false] <;> omega
theorem pick32 {x y : Int} (g : Bool) (hx : 0 ≤ x ∧ x ≤ topF .f32) (hy : 0 ≤ y ∧ y ≤ topF .f32) (nx : mg .f32 x ≤ kI .f32) (ny : mg .f32 y ≤ kI .f32) :
    fconvI .f64 .f32 (fpickI g (fconvI .f32 .f64 x) (fconvI .f32 .f64 y)) = if g then (if kz .f32 x < kz .f32 y then x else y) else (if kz .f32 y < kz .f32 x then x else y) := by
  obtain ⟨a1, _, a3, _, _⟩ := upW_facts hx nx
  obtain ⟨b1, _, b3, _, _⟩ := upW_facts hy ny
  rw [conv_up hx nx, conv_up hy ny]
  cases g with
  | true =>
    rw [fpick_min a1 b1 a3 b3, if_pos rfl]
    by_cases h : kz .f32 x < kz .f32 y
    · rw [if_pos ((kz_up hx hy nx ny).2 h), if_pos h, conv_down hx nx]
    · rw [if_neg (fun c => h ((kz_up hx hy nx ny).1 c)), if_neg h, conv_down hy ny]
  | false =>
    rw [fpick_max a1 b1 a3 b3]
    simp only [Bool.false_eq_true, if_false]
    by_cases h : kz .f32 y < kz .f32 x
    · rw [if_pos ((kz_up hy hx ny nx).2 h), if_pos h, conv_down hx nx]
    · rw [if_neg (fun c => h ((kz_up hy hx ny nx).1 c)), if_neg h, conv_down hy ny]
theorem num_of_ford {k : FloatKind} {x : Int} (hx : 0 ≤ x ∧ x ≤ topF k) (h : fordI k x x = 0) : mg k x ≤ kI k := by
  rw [ford_eq hx hx] at h
  by_cases hn : kI k < mg k x
  · rw [if_pos (.inl hn)] at h; exact absurd h (by decide)
  · omega
theorem pick32_ne (g : Bool) {a b : Int} (ha : fordI .f32 (IntKind.u32.wrap a) (IntKind.u32.wrap a) = 0) (hb : fordI .f32 (IntKind.u32.wrap b) (IntKind.u32.wrap b) = 0) : fconvI .f64 .f32 (fpickI g (fconvI .f32 .f64 (IntKind.u32.wrap a)) (fconvI .f32 .f64 (IntKind.u32.wrap b))) ≠ -2 := by
  rw [w32_eq] at *
  rw [w32_eq] at *
  have h1 := w32_in a
  have h2 := w32_in b
  rw [pick32 g h1 h2 (num_of_ford h1 ha) (num_of_ford h2 hb)]
  cases g <;> simp only [if_true, Bool.false_eq_true, if_false] <;> split <;> omega
end Go.Sx
