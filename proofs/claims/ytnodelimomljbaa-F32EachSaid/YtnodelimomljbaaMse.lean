/- Texts that a claim needs, put together: the engine, plain lemmas, contracts. No condition. -/
import Derived.Test.YtnodelimomljbaaMsd
import Derived.Test.YtnodelimomljbaaMsb
import Derived.Test.YtnodelimomljbaaMsc
import Derived.KernelRfl

/- The reference's whole part, root, lesser and greater of single floats, which the program reckons through doubles. No condition. -/
namespace Go.Sx.Ref
set_option linter.unusedVariables false
open Go Go.Sx Go.Sx.Flt Ieee
theorem sh_iteP (x : Int) : sh x = iteP (2147483648 ≤ x) 2147483648 0 := by
  unfold sh
  by_cases h : 2147483648 ≤ x
  · rw [if_pos h, iteP_pos h]
  · rw [if_neg h, iteP_neg h]
theorem whole_self3 {x : Int} (way : Toward) (hx : 0 ≤ x ∧ x ≤ 4294967295) (h : x % 2147483648 ≤ 2139095040) (hw : x % 2147483648 = 2139095040 ∨ x % 2147483648 = 0 ∨ 0 ≤ pO .f32 x) : fwhole32 way x = x := by
  have hr : (rgV way x : Int) = x % 2147483648 := by
    unfold rgV
    rw [mgD3 hx, kI32]
    by_cases hi : x % 2147483648 = 2139095040
    · rw [if_pos hi, hi]; rfl
    · rw [if_neg hi]
      rcases hw.resolve_left hi with h0 | h0
      · rw [h0, show (0 : Int).toNat = 0 from rfl, whole_null]; rfl
      · unfold pO at h0
        rw [mgD3 hx] at h0
        unfold wholeR
        rw [if_pos (show 0 ≤ placeOf Ieee.single (x % 2147483648).toNat from h0)]; omega
  rw [(fwhole32_word (way := way) (x := x) hx (by rw [mgD3 hx]; exact h)).1, hr]
  unfold sh
  split <;> omega
theorem conv_is {x : Int} (hx : 0 ≤ x ∧ x ≤ 4294967295) : fconvI .f32 .f64 x = -1 ↔ 2139095040 < x % 2147483648 := by
  constructor
  · intro h
    rcases Int.lt_or_le 2139095040 (x % 2147483648) with g | g
    · exact g
    · exact absurd h (conv_num (x := x) hx (by rw [mgD3 hx]; exact g))
  · intro h; exact conv_bad (x := x) hx (by rw [mgD3 hx]; exact h)
theorem whole_code3 {x N nan : Int} {way : Toward} (hx : 0 ≤ x ∧ x ≤ 4294967295) (h : x % 2147483648 < 2139095040) (hp : pO .f32 x < 0)
    (hN : N = ((mO .f32 x / 2 ^ (-pO .f32 x).toNat + (upBit way (decide (2147483648 ≤ x)) (mO .f32 x) (-pO .f32 x).toNat).toNat : Nat) : Int)) :
    iteP (2147483648 ≤ x) 2147483648 0 + fnG 5 N 0 0 = iteP (fconvI .f32 .f64 x = -1) nan (fwhole32 way x) := by
  have hf := (fwhole32_word (way := way) (x := x) hx (by rw [mgD3 hx]; exact Int.le_of_lt h)).1
  have hr : rgV way x = rungOf Ieee.single (mO .f32 x / 2 ^ (-pO .f32 x).toNat + (upBit way (decide (2147483648 ≤ x)) (mO .f32 x) (-pO .f32 x).toNat).toNat) 0 := by
    unfold rgV
    rw [if_neg (by rw [mgD3 hx, kI32]; omega)]
    unfold wholeR
    rw [if_neg (show ¬ 0 ≤ placeOf Ieee.single (mg .f32 x).toNat from Int.not_le.2 hp)]
    rfl
  refine iteP_of_neg (fun g => by have := (conv_is hx).1 g; omega) ?_
  rw [hf, sh_iteP, hr, hN, fn4_word3]
theorem fn2_mO3 {x : Int} : fnG 2 (0 + (mO .f32 x : Int)) (0 - pO .f32 x) 0 = ((mO .f32 x / 2 ^ (-pO .f32 x).toNat : Nat) : Int) := by
  simp only [fnG]
  rw [Int.zero_add, Int.toNat_natCast, Int.zero_sub]
theorem fn3_mO3 {x : Int} : fnG 3 (0 + (mO .f32 x : Int)) (0 - pO .f32 x) 0 = lost (mO .f32 x) (-pO .f32 x) := by
  simp only [fnG]
  rw [Int.zero_add, Int.toNat_natCast, Int.zero_sub]
/-! ### the lesser and the greater -/
def pick3 (b : Bool) (x y : Int) : Int := fconvI .f64 .f32 (fpickI b (fconvI .f32 .f64 x) (fconvI .f32 .f64 y))
theorem pick_facts3 {x y : Int} (hx : 0 ≤ x ∧ x ≤ 4294967295) (hy : 0 ≤ y ∧ y ≤ 4294967295) (nx : x % 2147483648 ≤ 2139095040) (ny : y % 2147483648 ≤ 2139095040) :
    (iteP (2147483648 ≤ x) (2147483648 - x) x = iteP (2147483648 ≤ y) (2147483648 - y) y → pick3 true x y = bitI .or .u64 x y ∧ pick3 false x y = bitI .and .u64 x y) ∧
      (iteP (2147483648 ≤ x) (2147483648 - x) x < iteP (2147483648 ≤ y) (2147483648 - y) y → pick3 true x y = x ∧ pick3 false x y = y) ∧ (iteP (2147483648 ≤ y) (2147483648 - y) y < iteP (2147483648 ≤ x) (2147483648 - x) x → pick3 true x y = y ∧ pick3 false x y = x) := by
  have h1 : pick3 true x y = if kz .f32 x < kz .f32 y then x else y := by
    have := pick32 (x := x) (y := y) true hx hy (by rw [mgD3 hx]; exact nx) (by rw [mgD3 hy]; exact ny)
    unfold pick3
    simpa using this
  have h2 : pick3 false x y = if kz .f32 y < kz .f32 x then x else y := by
    have := pick32 (x := x) (y := y) false hx hy (by rw [mgD3 hx]; exact nx) (by rw [mgD3 hy]; exact ny)
    unfold pick3
    simpa using this
  have s1 := bit_same3 x hx
  have o1 : bitI .or .u64 0 2147483648 = 2147483648 := by decide
  have o2 : bitI .or .u64 2147483648 0 = 2147483648 := by decide
  have a1 : bitI .and .u64 0 2147483648 = 0 := by decide
  have a2 : bitI .and .u64 2147483648 0 = 0 := by decide
  unfold kz at h1 h2
  rw [kM32] at h1 h2
  by_cases c : 2147483648 ≤ x <;> by_cases d : 2147483648 ≤ y
  · rw [iteP_pos c, iteP_pos d]
    rw [if_pos c, if_pos d] at h1 h2
    refine ⟨fun g => ?_, fun g => ?_, fun g => ?_⟩
    · have e : y = x := by omega
      subst e
      rw [h1, h2, if_neg (by omega), s1.1, s1.2]; exact ⟨rfl, rfl⟩
    · rw [h1, h2, if_pos (by omega), if_neg (by omega)]; exact ⟨rfl, rfl⟩
    · rw [h1, h2, if_neg (by omega), if_pos (by omega)]; exact ⟨rfl, rfl⟩
  · rw [iteP_pos c, iteP_neg d]
    rw [if_pos c, if_neg d] at h1 h2
    refine ⟨fun g => ?_, fun g => ?_, fun g => ?_⟩
    · have e : y = 0 := by omega
      have e' : x = 2147483648 := by omega
      subst e e'
      rw [h1, h2, o2, a2]; exact ⟨rfl, rfl⟩
    · rw [h1, h2, if_pos (by omega), if_neg (by omega)]; exact ⟨rfl, rfl⟩
    · omega
  · rw [iteP_neg c, iteP_pos d]
    rw [if_neg c, if_pos d] at h1 h2
    refine ⟨fun g => ?_, fun g => ?_, fun g => ?_⟩
    · have e : x = 0 := by omega
      have e' : y = 2147483648 := by omega
      subst e e'
      rw [h1, h2, o1, a1]; exact ⟨rfl, rfl⟩
    · omega
    · rw [h1, h2, if_neg (by omega), if_pos (by omega)]; exact ⟨rfl, rfl⟩
  · rw [iteP_neg c, iteP_neg d]
    rw [if_neg c, if_neg d] at h1 h2
    refine ⟨fun g => ?_, fun g => ?_, fun g => ?_⟩
    · have e : y = x := by omega
      subst e
      rw [h1, h2, if_neg (by omega), s1.1, s1.2]; exact ⟨rfl, rfl⟩
    · rw [h1, h2, if_pos (by omega), if_neg (by omega)]; exact ⟨rfl, rfl⟩
    · rw [h1, h2, if_neg (by omega), if_pos (by omega)]; exact ⟨rfl, rfl⟩
theorem pick_in3 {x y : Int} (b : Bool) (hx : 0 ≤ x ∧ x ≤ 4294967295) (hy : 0 ≤ y ∧ y ≤ 4294967295) (nx : x % 2147483648 ≤ 2139095040) (ny : y % 2147483648 ≤ 2139095040) : 0 ≤ pick3 b x y ∧ pick3 b x y ≤ 4294967295 := by
  unfold pick3
  rw [pick32 (x := x) (y := y) b hx hy (by rw [mgD3 hx]; exact nx) (by rw [mgD3 hy]; exact ny)]
  cases b
  · simp only [Bool.false_eq_true, if_false]; split <;> assumption
  · simp only [if_true]; split <;> assumption
/-! ### the root -/
theorem rootC_any {f : Format} (hF : f.fractionBits ≤ 52) {m a w : Nat} {i : Int} (hm : m ≠ 0) (hm2 : m < 9007199254740992) (ha1 : (i - a) % 2 = 0) (hroot : IsRoot (m * 2 ^ a) w) (hge : 2 ^ (f.fractionBits + 1) ≤ w) :
    rootC f m i = rootR f (m * 2 ^ a) w ((i - a) / 2) := by
  have h1 := lenN53 hm2
  have g1 := lenN_log hm
  obtain ⟨L, hL⟩ : ∃ L, m.log2 = L := ⟨_, rfl⟩
  obtain ⟨c, hc⟩ : ∃ c, (if (i - ((126 - lenN m : Nat) : Int)) % 2 = 1 then 126 - lenN m - 1 else 126 - lenN m) = c := ⟨_, rfl⟩
  have hc1 : (i - c) % 2 = 0 := by rw [← hc]; split <;> omega
  have hc2 : 124 ≤ L + c := by rw [← hc, g1, hL]; split <;> omega
  have hc3 : L + c ≤ 125 := by rw [← hc, g1, hL]; split <;> omega
  have hlt : m * 2 ^ c < 2 ^ 126 := by
    have h4 : m * 2 ^ c < 2 ^ (L + 1) * 2 ^ c := Nat.mul_lt_mul_of_pos_right (by rw [← hL]; exact Nat.lt_log2_self) (Nat.two_pow_pos _)
    rw [← Nat.pow_add] at h4
    exact Nat.lt_of_lt_of_le h4 (Nat.pow_le_pow_right (by decide) (by omega))
  have hv := rootL_spec (m * 2 ^ c) 64 0 (Nat.dvd_zero _) (by omega) (Nat.lt_trans hlt (by decide))
  unfold rootC
  simp only
  rw [hc]
  obtain ⟨v, hv'⟩ : ∃ v, rootL 64 (m * 2 ^ c) 0 = v := ⟨_, rfl⟩
  rw [hv'] at hv ⊢
  have hvge : 2 ^ (f.fractionBits + 1) ≤ v := by
    have h3 : 2 ^ (2 * 62) ≤ m * 2 ^ c := Nat.le_trans (Nat.pow_le_pow_right (by decide) (show 2 * 62 ≤ L + c by omega)) (by rw [Nat.pow_add, ← hL]; exact Nat.mul_le_mul_right _ (Nat.log2_self_le hm))
    exact Nat.le_trans (Nat.pow_le_pow_right (by decide) (show f.fractionBits + 1 ≤ 62 by omega)) (root_lo hv h3)
  show rootR f (m * 2 ^ c) v ((i - c) / 2) = rootR f (m * 2 ^ a) w ((i - a) / 2)
  rcases Nat.le_total a c with h | h
  · obtain ⟨d, hd⟩ : ∃ d, c = a + 2 * d := ⟨(c - a) / 2, by omega⟩
    refine root_two (b := 0) ((i - a) / 2) ((i - c) / 2) hroot hv hge (a := d) ?_ (by omega) rfl
    rw [hd, Nat.pow_add, Nat.mul_assoc]
  · obtain ⟨d, hd⟩ : ∃ d, a = c + 2 * d := ⟨(a - c) / 2, by omega⟩
    refine (root_two (b := 0) ((i - c) / 2) ((i - a) / 2) hv hroot hvge (a := d) ?_ (by omega) rfl).symm
    rw [hd, Nat.pow_add, Nat.mul_assoc]
theorem dn_root {ρ : Nat} (h0 : 0 < ρ) (hi : ρ < 2139095040) : dn (rootC Ieee.double (magOf Ieee.double (upR ρ)) (placeOf Ieee.double (upR ρ))) = rootC Ieee.single (magOf Ieee.single ρ) (placeOf Ieee.single ρ) := by
  obtain ⟨hv, hul⟩ := upR_val hi
  have hml := mag32 ρ
  have hpl := place32 hi
  obtain ⟨m, hm⟩ : ∃ m, magOf Ieee.single ρ = m := ⟨_, rfl⟩
  obtain ⟨i, hie⟩ : ∃ i, placeOf Ieee.single ρ = i := ⟨_, rfl⟩
  obtain ⟨M, hM⟩ : ∃ M, magOf Ieee.double (upR ρ) = M := ⟨_, rfl⟩
  obtain ⟨I, hI⟩ : ∃ I, placeOf Ieee.double (upR ρ) = I := ⟨_, rfl⟩
  have hM2 : M < 9007199254740992 := by rw [← hM]; exact Nat.lt_of_lt_of_le (mag_lt _ _) (by decide)
  have hIl : -1074 ≤ I ∧ I ≤ 971 := by
    rw [← hI]
    have h1 : Ieee.double.leastPlace = -1074 := by decide
    have h2 : Ieee.double.binade = 4503599627370496 := by decide
    unfold placeOf
    rw [h1, h2]
    split <;> omega
  have hvd : val Ieee.double (upR ρ) = M * 2 ^ (I + 1074).toNat := by
    unfold val; rw [hM, hI, show Ieee.double.leastPlace = -1074 by decide]; congr 2
  have hvs : val Ieee.single ρ = m * 2 ^ (i + 149).toNat := by
    unfold val; rw [hm, hie, show Ieee.single.leastPlace = -149 by decide]; congr 2
  rw [hm] at hml
  rw [hie] at hpl
  rw [hvd, hvs] at hv
  have hm0 : m ≠ 0 := by
    intro h
    have h1 := val_pos Ieee.single h0
    rw [hvs, h, Nat.zero_mul] at h1
    omega
  obtain ⟨c, hc⟩ : ∃ c, c925 = c := ⟨_, rfl⟩
  have hc9 : c = 925 := hc.symm
  rw [hc, Nat.mul_assoc, ← Nat.pow_add] at hv
  obtain ⟨g, hg⟩ : ∃ g : Nat, (g : Int) = I + 1074 := ⟨(I + 1074).toNat, by omega⟩
  obtain ⟨k, hk⟩ : ∃ k : Nat, (k : Int) = i + 1074 := ⟨(i + 1074).toNat, by omega⟩
  rw [show (I + 1074).toNat = g by omega, show (i + 149).toNat + c = k by omega] at hv
  -- the double's digits reach further down
  have hgk : g ≤ k := by
    rcases Nat.lt_or_ge k g with h | h
    · exfalso
      have e : (2 : Nat) ^ g = 2 ^ (g - k) * 2 ^ k := by rw [← Nat.pow_add]; congr 1; omega
      rw [e, ← Nat.mul_assoc] at hv
      have h2 := Nat.eq_of_mul_eq_mul_right (Nat.two_pow_pos k) hv
      have h3 : M ≤ m := by rw [← h2]; exact Nat.le_mul_of_pos_right M (Nat.two_pow_pos _)
      have hb : Ieee.double.binade = 4503599627370496 := by decide
      have h4 : ¬ Ieee.double.binade ≤ M := by rw [hb]; omega
      have h5 : upR ρ < Ieee.double.binade := by
        rcases Nat.lt_or_ge (upR ρ) Ieee.double.binade with q | q
        · exact q
        · exfalso; apply h4
          rw [← hM]; unfold magOf; rw [if_neg (by omega)]; omega
      have h6 : I = -1074 := by rw [← hI]; unfold placeOf; rw [if_pos h5]; decide
      omega
    · exact h
  obtain ⟨s, hs⟩ : ∃ s, k = g + s := ⟨k - g, by omega⟩
  have hMm : M = m * 2 ^ s := by
    rw [hs, Nat.pow_add, Nat.mul_comm (2 ^ g), ← Nat.mul_assoc] at hv
    exact Nat.eq_of_mul_eq_mul_right (Nat.two_pow_pos g) hv
  have hM0 : M ≠ 0 := by rw [hMm]; exact Nat.mul_ne_zero hm0 (by have := Nat.two_pow_pos s; omega)
  -- the root that the reference takes of the double
  have h1 := lenN53 hM2
  have g1 := lenN_log hM0
  obtain ⟨L, hL⟩ : ∃ L, M.log2 = L := ⟨_, rfl⟩
  obtain ⟨A, hA⟩ : ∃ A, (if (I - ((126 - lenN M : Nat) : Int)) % 2 = 1 then 126 - lenN M - 1 else 126 - lenN M) = A := ⟨_, rfl⟩
  have hc1 : (I - A) % 2 = 0 := by rw [← hA]; split <;> omega
  have hc2 : 124 ≤ L + A := by rw [← hA, g1, hL]; split <;> omega
  have hc3 : L + A ≤ 125 := by rw [← hA, g1, hL]; split <;> omega
  have hlt : M * 2 ^ A < 2 ^ 126 := by
    have h4 : M * 2 ^ A < 2 ^ (L + 1) * 2 ^ A := Nat.mul_lt_mul_of_pos_right (by rw [← hL]; exact Nat.lt_log2_self) (Nat.two_pow_pos _)
    rw [← Nat.pow_add] at h4
    exact Nat.lt_of_lt_of_le h4 (Nat.pow_le_pow_right (by decide) (by omega))
  have hw := rootL_spec (M * 2 ^ A) 64 0 (Nat.dvd_zero _) (by omega) (Nat.lt_trans hlt (by decide))
  obtain ⟨w, hw'⟩ : ∃ w, rootL 64 (M * 2 ^ A) 0 = w := ⟨_, rfl⟩
  rw [hw'] at hw
  have hroot : IsRoot (M * 2 ^ A) w := hw
  have hwge : 2 ^ 62 ≤ w := root_lo hroot (Nat.le_trans (Nat.pow_le_pow_right (by decide) (show 2 * 62 ≤ L + A by omega)) (by rw [Nat.pow_add, ← hL]; exact Nat.mul_le_mul_right _ (Nat.log2_self_le hM0)))
  have hwlt : w < 2 ^ 63 := by
    have e : (2 : Nat) ^ 126 = 2 ^ 63 * 2 ^ 63 := by rw [← Nat.pow_add]
    exact sq_lt (Nat.lt_of_le_of_lt hroot.1 (by rw [← e]; exact hlt))
  have hN : M * 2 ^ A = m * 2 ^ (s + A) := by rw [hMm, Nat.pow_add, Nat.mul_assoc]
  have r1 : rootC Ieee.double M I = rootR Ieee.double (M * 2 ^ A) w ((I - A) / 2) := rootC_any (by decide) hM0 hM2 hc1 hroot (Nat.le_trans (by decide) hwge)
  rw [hN] at hroot
  have r2 : rootC Ieee.single m i = rootR Ieee.single (m * 2 ^ (s + A)) w ((i - (s + A : Nat)) / 2) := rootC_any (by decide) hm0 (by omega) (by omega) hroot (Nat.le_trans (by decide) hwge)
  rw [hm, hie, hM, hI, r1, r2, hN, show (i - ((s + A : Nat) : Int)) / 2 = (I - A) / 2 by omega]
  exact double_root (j := 38) (k := 0) hml hroot hwge hwlt (by decide) (by omega) (by omega) _ rfl
theorem root_code3 {x m p N : Int} (X : Word3 x m p) :
    iteP (2139095040 < x % 2147483648 ∨ 2147483648 ≤ x ∧ (x % 2147483648 = 2139095040 ∨ ¬ m = 0)) N
      (iteP (x % 2147483648 = 2139095040) 2139095040 (iteP (m = 0) (iteP (2147483648 ≤ x) 2147483648 0) (fnG 11 (m * 4096 + (p + 2048)) 0 0))) =
      iteP (fconvI .f32 .f64 x = -1) N (iteP (fsqrtI (fconvI .f32 .f64 x) = -1) N (fconvI .f64 .f32 (fsqrtI (fconvI .f32 .f64 x)))) := by
  have hx := X.r
  have zx : x % 2147483648 < 2139095040 → (m = 0 ↔ x % 2147483648 = 0) := fun h => by rw [X.m h]; exact mO_null3 hx h
  by_cases hn : 2139095040 < x % 2147483648
  · rw [iteP_pos (.inl hn), iteP_pos ((conv_is hx).2 hn)]
  · have nx : mg .f32 x ≤ kI .f32 := by rw [mgD3 hx, kI32]; omega
    rw [iteP_neg (fun g => hn ((conv_is hx).1 g))]
    have hup := conv_up (x := x) hx nx
    obtain ⟨f1, f2, f3, f4, _⟩ := upW_facts (x := x) hx nx
    have hdown := conv_down (x := x) hx nx
    rw [hup]
    have hmx := mgD3 hx
    by_cases hz : x % 2147483648 = 0
    · have hm : m = 0 := (zx (by omega)).2 hz
      rw [iteP_neg (show ¬ (2139095040 < x % 2147483648 ∨ 2147483648 ≤ x ∧ (x % 2147483648 = 2139095040 ∨ ¬ m = 0)) by omega), iteP_neg (by omega), iteP_pos hm]
      have h0 : mg .f64 (upW x) = 0 := by
        rw [f2, hmx, hz]
        have : upR 0 = 0 := by unfold upR; rw [if_pos (by decide)]; unfold magOf; rw [if_pos (binade_pos _)]; rfl
        rw [show (0 : Int).toNat = 0 from rfl, this]; rfl
      rw [fsqrt_zero f1 h0]
      refine iteP_of_neg (by omega) ?_
      rw [hdown]
      exact iteP_casel (fun _ => by omega) (fun _ => by omega)
    · by_cases hs : 2147483648 ≤ x
      · have hm : x % 2147483648 = 2139095040 ∨ ¬ m = 0 := by
          rcases Int.lt_or_le (x % 2147483648) 2139095040 with g | g
          · exact .inr (fun h => hz ((zx g).1 h))
          · exact .inl (by omega)
        rw [iteP_pos (.inr ⟨hs, hm⟩)]
        have hne : mg .f64 (upW x) ≠ 0 := by
          rw [f2, hmx]
          intro h
          have h1 : upR (x % 2147483648).toNat = 0 := by omega
          have h2 := upR_lt (r := 0) (q := (x % 2147483648).toNat) (by omega) (by omega)
          omega
        rw [iteP_pos (fsqrt_neg f1 f3 (f4.2 hs) hne)]
      · rw [iteP_neg (show ¬ (2139095040 < x % 2147483648 ∨ 2147483648 ≤ x ∧ (x % 2147483648 = 2139095040 ∨ ¬ m = 0)) by omega)]
        by_cases hi : x % 2147483648 = 2139095040
        · have e : upW x = 9218868437227405312 := by
            unfold upW
            rw [if_neg hs, hmx, hi]; rfl
          rw [iteP_pos hi, e, fsqrt_inf, iteP_neg (by decide), ← e, hdown]
          omega
        · have hlt : x % 2147483648 < 2139095040 := by omega
          have hm : ¬ m = 0 := fun h => hz ((zx hlt).1 h)
          have px := pO_in3 hx hlt
          rw [iteP_neg hi, iteP_neg hm, X.m hlt, X.p hlt, fn10_code3 (mO_in3 x).1 px, Int.toNat_natCast]
          obtain ⟨ρ, hρ⟩ : ∃ ρ : Nat, x = ρ := ⟨x.toNat, by omega⟩
          have hρ1 : (x % 2147483648).toNat = ρ := by omega
          have e : upW x = ((upR ρ : Nat) : Int) := by
            unfold upW
            rw [if_neg hs, hmx, hρ1]; omega
          have hup0 : 0 < upR ρ := by
            have := upR_lt (r := 0) (q := ρ) (by omega) (by omega)
            omega
          have hupi := (upR_val (r := ρ) (by omega)).2
          have F := far_root (x := upW x) f1 f3
          have hmu : mg .f64 (upW x) = ((upR ρ : Nat) : Int) := by rw [f2, hmx, hρ1]
          rw [kM64, kI64, hmu, if_neg (by omega), if_neg (by omega), if_neg (by omega)] at F
          have hmO : mO .f64 (upW x) = magOf Ieee.double (upR ρ) := by unfold mO; rw [hmu, Int.toNat_natCast]; rfl
          have hpO : pO .f64 (upW x) = placeOf Ieee.double (upR ρ) := by unfold pO; rw [hmu, Int.toNat_natCast]; rfl
          rw [hmO, hpO] at F
          have hd := dn_root (ρ := ρ) (by omega) (by omega)
          have hmS : mO .f32 x = magOf Ieee.single ρ := by unfold mO; rw [hmx, hρ1]; rfl
          have hpS : pO .f32 x = placeOf Ieee.single ρ := by unfold pO; rw [hmx, hρ1]; rfl
          rw [hmS, hpS, ← hd, F]
          obtain ⟨R, hR, r2, n1, n2, _, _⟩ := root32 (ρ := ρ) (by omega) (by omega)
          have hRR : rootC Ieee.double (magOf Ieee.double (upR ρ)) (placeOf Ieee.double (upR ρ)) = R := by
            rw [e, hR] at F; omega
          rw [hRR, iteP_neg (by omega), conv_dn (by omega) (by omega)]
end Go.Sx.Ref

/- The ways of the reference's single floats through numbers, and that the code takes no other. No condition. -/
namespace Go.Proofs.Ytnodelimomljbaa.RunRefC3
open Go Go.Sx Go.Sx.Flt Go.Sx.Ref

def addD3Rz0 : E := (.un (.wrap .u64) (.bin (.shr .u64) (.var 8) (.bin .sub (.lit 64) (.bin .sub (.var 9) (.var 4)))))
def addD3Rz1 : E := (.un (.wrap .u64) (.bin (.shr .u64) (.var 3) (.bin .sub (.lit 64) (.bin .sub (.var 4) (.var 9)))))
def addD3Rz2 : E := (.un (.wrap .u64) (.bin .add (.bin (.shl .u64) (.var 8) (.bin .sub (.var 9) (.var 4))) (.var 3)))
def addD3Rz3 : E := (.un (.wrap .u64) (.bin .add (.bin (.shl .u64) (.var 3) (.bin .sub (.var 4) (.var 9))) (.var 8)))
def addD3Rz4 : E := (.un (.wrap .u64) (.bin .sub (.bin (.shl .u64) (.var 8) (.bin .sub (.var 9) (.var 4))) (.var 3)))
def addD3Rz5 : E := (.un (.wrap .u64) (.bin .sub (.bin (.shl .u64) (.var 3) (.bin .sub (.var 4) (.var 9))) (.var 8)))
def addD3Rz6 : E := (.bin .le (.lit 0) (.bin (.shr .u64) (.var 8) (.bin .sub (.lit 64) (.bin .sub (.var 9) (.var 4)))))
def addD3Rz7 : E := (.bin .le (.lit 0) (.bin (.shr .u64) (.var 3) (.bin .sub (.lit 64) (.bin .sub (.var 4) (.var 9)))))
def addD3R : List Leaf := [
  ([(.var 0), (.bin .eq (.var 8) (.lit 0)), (.bin .eq (.var 3) (.lit 0)), (.bin .le (.lit 0) (.var 3)), (.bin .le (.var 3) (.lit 16777215)), (.bin .le (.lit (-149)) (.var 4)), (.bin .le (.var 4) (.lit 104)), (.bin .le (.lit 0) (.var 8)), (.bin .le (.var 8) (.lit 16777215)), (.bin .le (.lit (-149)) (.var 9)), (.bin .le (.var 9) (.lit 104))], (.int .u64 (.ite (.un .bnot (.un .bnot (.var 5))) (.lit 2147483648) (.lit 0)))),
  ([(.un .bnot (.var 0)), (.bin .eq (.var 8) (.lit 0)), (.bin .eq (.var 3) (.lit 0)), (.bin .le (.lit 0) (.var 3)), (.bin .le (.var 3) (.lit 16777215)), (.bin .le (.lit (-149)) (.var 4)), (.bin .le (.var 4) (.lit 104)), (.bin .le (.lit 0) (.var 8)), (.bin .le (.var 8) (.lit 16777215)), (.bin .le (.lit (-149)) (.var 9)), (.bin .le (.var 9) (.lit 104))], (.int .u64 (.ite (.un .bnot (.un .bnot (.lit 0))) (.lit 2147483648) (.lit 0)))),
  ([(.bin .lt (.bin .add (.var 8) (.var 3)) (.var 8)), (.bin .eq (.un .bnot (.un .bnot (.var 5))) (.un .bnot (.un .bnot (.var 0)))), (.un .bnot (.bin .eq (.var 8) (.lit 0))), (.bin .eq (.var 3) (.lit 0)), (.bin .le (.lit 0) (.var 3)), (.bin .le (.var 3) (.lit 16777215)), (.bin .le (.lit (-149)) (.var 4)), (.bin .le (.var 4) (.lit 104)), (.bin .le (.lit 0) (.var 8)), (.bin .le (.var 8) (.lit 16777215)), (.bin .le (.lit (-149)) (.var 9)), (.bin .le (.var 9) (.lit 104))], (.int .u64 (.bin .add (.ite (.un .bnot (.un .bnot (.var 5))) (.lit 2147483648) (.lit 0)) (.fn 5 (.bin .add (.lit 18446744073709551616) (.bin .add (.var 8) (.var 3))) (.var 9) (.lit 0))))),
  ([(.bin .lt (.bin .add (.var 8) (.var 3)) (.bin .add (.var 8) (.var 3))), (.bin .le (.var 8) (.bin .add (.var 8) (.var 3))), (.bin .eq (.un .bnot (.un .bnot (.var 5))) (.un .bnot (.un .bnot (.var 0)))), (.un .bnot (.bin .eq (.var 8) (.lit 0))), (.bin .eq (.var 3) (.lit 0)), (.bin .le (.lit 0) (.var 3)), (.bin .le (.var 3) (.lit 16777215)), (.bin .le (.lit (-149)) (.var 4)), (.bin .le (.var 4) (.lit 104)), (.bin .le (.lit 0) (.var 8)), (.bin .le (.var 8) (.lit 16777215)), (.bin .le (.lit (-149)) (.var 9)), (.bin .le (.var 9) (.lit 104))], (.int .u64 (.bin .add (.ite (.un .bnot (.un .bnot (.var 5))) (.lit 2147483648) (.lit 0)) (.fn 5 (.bin .add (.lit 18446744073709551616) (.bin .add (.var 8) (.var 3))) (.var 9) (.lit 0))))),
  ([(.bin .le (.bin .add (.var 8) (.var 3)) (.bin .add (.var 8) (.var 3))), (.bin .le (.var 8) (.bin .add (.var 8) (.var 3))), (.bin .eq (.un .bnot (.un .bnot (.var 5))) (.un .bnot (.un .bnot (.var 0)))), (.un .bnot (.bin .eq (.var 8) (.lit 0))), (.bin .eq (.var 3) (.lit 0)), (.bin .le (.lit 0) (.var 3)), (.bin .le (.var 3) (.lit 16777215)), (.bin .le (.lit (-149)) (.var 4)), (.bin .le (.var 4) (.lit 104)), (.bin .le (.lit 0) (.var 8)), (.bin .le (.var 8) (.lit 16777215)), (.bin .le (.lit (-149)) (.var 9)), (.bin .le (.var 9) (.lit 104))], (.int .u64 (.bin .add (.ite (.un .bnot (.un .bnot (.var 5))) (.lit 2147483648) (.lit 0)) (.fn 5 (.bin .add (.lit 0) (.bin .add (.var 8) (.var 3))) (.var 9) (.lit 0))))),
  ([(.bin .eq (.bin (.bits .or .u64) (.lit 0) (.bin .sub (.var 8) (.var 3))) (.lit 0)), (.un .bnot (.bin .eq (.un .bnot (.un .bnot (.var 5))) (.un .bnot (.un .bnot (.var 0))))), (.un .bnot (.bin .eq (.var 8) (.lit 0))), (.bin .eq (.var 3) (.lit 0)), (.bin .le (.lit 0) (.var 3)), (.bin .le (.var 3) (.lit 16777215)), (.bin .le (.lit (-149)) (.var 4)), (.bin .le (.var 4) (.lit 104)), (.bin .le (.lit 0) (.var 8)), (.bin .le (.var 8) (.lit 16777215)), (.bin .le (.lit (-149)) (.var 9)), (.bin .le (.var 9) (.lit 104))], (.int .u64 (.ite (.un .bnot (.un .bnot (.lit 0))) (.lit 2147483648) (.lit 0)))),
  ([(.un .bnot (.bin .eq (.bin (.bits .or .u64) (.lit 0) (.bin .sub (.var 8) (.var 3))) (.lit 0))), (.un .bnot (.bin .eq (.un .bnot (.un .bnot (.var 5))) (.un .bnot (.un .bnot (.var 0))))), (.un .bnot (.bin .eq (.var 8) (.lit 0))), (.bin .eq (.var 3) (.lit 0)), (.bin .le (.lit 0) (.var 3)), (.bin .le (.var 3) (.lit 16777215)), (.bin .le (.lit (-149)) (.var 4)), (.bin .le (.var 4) (.lit 104)), (.bin .le (.lit 0) (.var 8)), (.bin .le (.var 8) (.lit 16777215)), (.bin .le (.lit (-149)) (.var 9)), (.bin .le (.var 9) (.lit 104))], (.int .u64 (.bin .add (.ite (.un .bnot (.un .bnot (.var 5))) (.lit 2147483648) (.lit 0)) (.fn 5 (.bin .add (.lit 0) (.bin .sub (.var 8) (.var 3))) (.var 9) (.lit 0))))),
  ([(.bin .eq (.un .bnot (.un .bnot (.var 5))) (.un .bnot (.un .bnot (.var 0)))), (.bin .lt (.lit 70) (.bin .sub (.var 9) (.var 4))), (.bin .lt (.var 4) (.var 9)), (.un .bnot (.bin .eq (.var 8) (.lit 0))), (.un .bnot (.bin .eq (.var 3) (.lit 0))), (.bin .le (.lit 0) (.var 3)), (.bin .le (.var 3) (.lit 16777215)), (.bin .le (.lit (-149)) (.var 4)), (.bin .le (.var 4) (.lit 104)), (.bin .le (.lit 0) (.var 8)), (.bin .le (.var 8) (.lit 16777215)), (.bin .le (.lit (-149)) (.var 9)), (.bin .le (.var 9) (.lit 104))], (.int .u64 (.bin .add (.ite (.un .bnot (.un .bnot (.var 5))) (.lit 2147483648) (.lit 0)) (.fn 5 (.bin .add (.bin .mul (.bin .mul (.var 8) (.lit 64)) (.lit 18446744073709551616)) (.lit 1)) (.bin .add (.var 9) (.lit (-70))) (.lit 0))))),
  ([(.bin .eq (.bin (.bits .or .u64) (.bin .add (.bin .mul (.var 8) (.lit 64)) (.lit (-1))) (.lit 18446744073709551615)) (.lit 0)), (.un .bnot (.bin .eq (.un .bnot (.un .bnot (.var 5))) (.un .bnot (.un .bnot (.var 0))))), (.bin .lt (.lit 70) (.bin .sub (.var 9) (.var 4))), (.bin .lt (.var 4) (.var 9)), (.un .bnot (.bin .eq (.var 8) (.lit 0))), (.un .bnot (.bin .eq (.var 3) (.lit 0))), (.bin .le (.lit 0) (.var 3)), (.bin .le (.var 3) (.lit 16777215)), (.bin .le (.lit (-149)) (.var 4)), (.bin .le (.var 4) (.lit 104)), (.bin .le (.lit 0) (.var 8)), (.bin .le (.var 8) (.lit 16777215)), (.bin .le (.lit (-149)) (.var 9)), (.bin .le (.var 9) (.lit 104))], (.int .u64 (.ite (.un .bnot (.un .bnot (.lit 0))) (.lit 2147483648) (.lit 0)))),
  ([(.un .bnot (.bin .eq (.bin (.bits .or .u64) (.bin .add (.bin .mul (.var 8) (.lit 64)) (.lit (-1))) (.lit 18446744073709551615)) (.lit 0))), (.un .bnot (.bin .eq (.un .bnot (.un .bnot (.var 5))) (.un .bnot (.un .bnot (.var 0))))), (.bin .lt (.lit 70) (.bin .sub (.var 9) (.var 4))), (.bin .lt (.var 4) (.var 9)), (.un .bnot (.bin .eq (.var 8) (.lit 0))), (.un .bnot (.bin .eq (.var 3) (.lit 0))), (.bin .le (.lit 0) (.var 3)), (.bin .le (.var 3) (.lit 16777215)), (.bin .le (.lit (-149)) (.var 4)), (.bin .le (.var 4) (.lit 104)), (.bin .le (.lit 0) (.var 8)), (.bin .le (.var 8) (.lit 16777215)), (.bin .le (.lit (-149)) (.var 9)), (.bin .le (.var 9) (.lit 104))], (.int .u64 (.bin .add (.ite (.un .bnot (.un .bnot (.var 5))) (.lit 2147483648) (.lit 0)) (.fn 5 (.bin .add (.bin .mul (.bin .add (.bin .mul (.var 8) (.lit 64)) (.lit (-1))) (.lit 18446744073709551616)) (.lit 18446744073709551615)) (.bin .add (.var 9) (.lit (-70))) (.lit 0))))),
  ([(.bin .lt (.var 3) (.var 3)), (.bin .eq (.un .bnot (.un .bnot (.var 5))) (.un .bnot (.un .bnot (.var 0)))), (.bin .le (.lit 64) (.bin .sub (.var 9) (.var 4))), (.bin .le (.bin .sub (.var 9) (.var 4)) (.lit 70)), (.bin .lt (.var 4) (.var 9)), (.un .bnot (.bin .eq (.var 8) (.lit 0))), (.un .bnot (.bin .eq (.var 3) (.lit 0))), (.bin .le (.lit 0) (.var 3)), (.bin .le (.var 3) (.lit 16777215)), (.bin .le (.lit (-149)) (.var 4)), (.bin .le (.var 4) (.lit 104)), (.bin .le (.lit 0) (.var 8)), (.bin .le (.var 8) (.lit 16777215)), (.bin .le (.lit (-149)) (.var 9)), (.bin .le (.var 9) (.lit 104))], (.int .u64 (.bin .add (.ite (.un .bnot (.un .bnot (.var 5))) (.lit 2147483648) (.lit 0)) (.fn 5 (.bin .add (.bin .mul (.un (.wrap .u64) (.bin .add (.bin (.shl .u64) (.var 8) (.bin .add (.bin .sub (.var 9) (.var 4)) (.lit (-64)))) (.lit 1))) (.lit 18446744073709551616)) (.var 3)) (.bin .sub (.var 9) (.bin .sub (.var 9) (.var 4))) (.lit 0))))),
  ([(.bin .le (.var 3) (.var 3)), (.bin .eq (.un .bnot (.un .bnot (.var 5))) (.un .bnot (.un .bnot (.var 0)))), (.bin .le (.lit 64) (.bin .sub (.var 9) (.var 4))), (.bin .le (.bin .sub (.var 9) (.var 4)) (.lit 70)), (.bin .lt (.var 4) (.var 9)), (.un .bnot (.bin .eq (.var 8) (.lit 0))), (.un .bnot (.bin .eq (.var 3) (.lit 0))), (.bin .le (.lit 0) (.var 3)), (.bin .le (.var 3) (.lit 16777215)), (.bin .le (.lit (-149)) (.var 4)), (.bin .le (.var 4) (.lit 104)), (.bin .le (.lit 0) (.var 8)), (.bin .le (.var 8) (.lit 16777215)), (.bin .le (.lit (-149)) (.var 9)), (.bin .le (.var 9) (.lit 104))], (.int .u64 (.bin .add (.ite (.un .bnot (.un .bnot (.var 5))) (.lit 2147483648) (.lit 0)) (.fn 5 (.bin .add (.bin .mul (.bin (.shl .u64) (.var 8) (.bin .add (.bin .sub (.var 9) (.var 4)) (.lit (-64)))) (.lit 18446744073709551616)) (.var 3)) (.bin .sub (.var 9) (.bin .sub (.var 9) (.var 4))) (.lit 0))))),
  ([(.bin .lt (.bin (.shl .u64) (.var 8) (.bin .add (.bin .sub (.var 9) (.var 4)) (.lit (-64)))) (.lit 1)), (.un .bnot (.bin .eq (.un .bnot (.un .bnot (.var 5))) (.un .bnot (.un .bnot (.var 0))))), (.bin .le (.lit 64) (.bin .sub (.var 9) (.var 4))), (.bin .le (.bin .sub (.var 9) (.var 4)) (.lit 70)), (.bin .lt (.var 4) (.var 9)), (.un .bnot (.bin .eq (.var 8) (.lit 0))), (.un .bnot (.bin .eq (.var 3) (.lit 0))), (.bin .le (.lit 0) (.var 3)), (.bin .le (.var 3) (.lit 16777215)), (.bin .le (.lit (-149)) (.var 4)), (.bin .le (.var 4) (.lit 104)), (.bin .le (.lit 0) (.var 8)), (.bin .le (.var 8) (.lit 16777215)), (.bin .le (.lit (-149)) (.var 9)), (.bin .le (.var 9) (.lit 104))], (.int .u64 (.bin .add (.ite (.un .bnot (.un .bnot (.var 0))) (.lit 2147483648) (.lit 0)) (.fn 5 (.bin .add (.lit 0) (.var 3)) (.bin .sub (.var 9) (.bin .sub (.var 9) (.var 4))) (.lit 0))))),
  ([(.bin .eq (.bin (.bits .or .u64) (.un (.wrap .u64) (.bin .add (.bin (.shl .u64) (.var 8) (.bin .add (.bin .sub (.var 9) (.var 4)) (.lit (-64)))) (.lit (-1)))) (.un (.wrap .u64) (.bin .sub (.lit 0) (.var 3)))) (.lit 0)), (.bin .le (.lit 1) (.bin (.shl .u64) (.var 8) (.bin .add (.bin .sub (.var 9) (.var 4)) (.lit (-64))))), (.un .bnot (.bin .eq (.un .bnot (.un .bnot (.var 5))) (.un .bnot (.un .bnot (.var 0))))), (.bin .le (.lit 64) (.bin .sub (.var 9) (.var 4))), (.bin .le (.bin .sub (.var 9) (.var 4)) (.lit 70)), (.bin .lt (.var 4) (.var 9)), (.un .bnot (.bin .eq (.var 8) (.lit 0))), (.un .bnot (.bin .eq (.var 3) (.lit 0))), (.bin .le (.lit 0) (.var 3)), (.bin .le (.var 3) (.lit 16777215)), (.bin .le (.lit (-149)) (.var 4)), (.bin .le (.var 4) (.lit 104)), (.bin .le (.lit 0) (.var 8)), (.bin .le (.var 8) (.lit 16777215)), (.bin .le (.lit (-149)) (.var 9)), (.bin .le (.var 9) (.lit 104))], (.int .u64 (.ite (.un .bnot (.un .bnot (.lit 0))) (.lit 2147483648) (.lit 0)))),
  ([(.un .bnot (.bin .eq (.bin (.bits .or .u64) (.un (.wrap .u64) (.bin .add (.bin (.shl .u64) (.var 8) (.bin .add (.bin .sub (.var 9) (.var 4)) (.lit (-64)))) (.lit (-1)))) (.un (.wrap .u64) (.bin .sub (.lit 0) (.var 3)))) (.lit 0))), (.bin .le (.lit 1) (.bin (.shl .u64) (.var 8) (.bin .add (.bin .sub (.var 9) (.var 4)) (.lit (-64))))), (.un .bnot (.bin .eq (.un .bnot (.un .bnot (.var 5))) (.un .bnot (.un .bnot (.var 0))))), (.bin .le (.lit 64) (.bin .sub (.var 9) (.var 4))), (.bin .le (.bin .sub (.var 9) (.var 4)) (.lit 70)), (.bin .lt (.var 4) (.var 9)), (.un .bnot (.bin .eq (.var 8) (.lit 0))), (.un .bnot (.bin .eq (.var 3) (.lit 0))), (.bin .le (.lit 0) (.var 3)), (.bin .le (.var 3) (.lit 16777215)), (.bin .le (.lit (-149)) (.var 4)), (.bin .le (.var 4) (.lit 104)), (.bin .le (.lit 0) (.var 8)), (.bin .le (.var 8) (.lit 16777215)), (.bin .le (.lit (-149)) (.var 9)), (.bin .le (.var 9) (.lit 104))], (.int .u64 (.bin .add (.ite (.un .bnot (.un .bnot (.var 5))) (.lit 2147483648) (.lit 0)) (.fn 5 (.bin .add (.bin .mul (.un (.wrap .u64) (.bin .add (.bin (.shl .u64) (.var 8) (.bin .add (.bin .sub (.var 9) (.var 4)) (.lit (-64)))) (.lit (-1)))) (.lit 18446744073709551616)) (.un (.wrap .u64) (.bin .sub (.lit 0) (.var 3)))) (.bin .sub (.var 9) (.bin .sub (.var 9) (.var 4))) (.lit 0))))),
  ([(.bin .lt addD3Rz2 (.bin (.shl .u64) (.var 8) (.bin .sub (.var 9) (.var 4)))), (.bin .eq (.un .bnot (.un .bnot (.var 5))) (.un .bnot (.un .bnot (.var 0)))), (.bin .lt (.bin .sub (.var 9) (.var 4)) (.lit 64)), (.bin .le (.bin .sub (.var 9) (.var 4)) (.lit 70)), (.bin .lt (.var 4) (.var 9)), (.un .bnot (.bin .eq (.var 8) (.lit 0))), (.un .bnot (.bin .eq (.var 3) (.lit 0))), (.bin .le (.lit 0) (.var 3)), (.bin .le (.var 3) (.lit 16777215)), (.bin .le (.lit (-149)) (.var 4)), (.bin .le (.var 4) (.lit 104)), (.bin .le (.lit 0) (.var 8)), (.bin .le (.var 8) (.lit 16777215)), (.bin .le (.lit (-149)) (.var 9)), (.bin .le (.var 9) (.lit 104))], (.int .u64 (.bin .add (.ite (.un .bnot (.un .bnot (.var 5))) (.lit 2147483648) (.lit 0)) (.fn 5 (.bin .add (.bin .mul (.un (.wrap .u64) (.bin .add (.bin (.shr .u64) (.var 8) (.bin .sub (.lit 64) (.bin .sub (.var 9) (.var 4)))) (.lit 1))) (.lit 18446744073709551616)) addD3Rz2) (.bin .sub (.var 9) (.bin .sub (.var 9) (.var 4))) (.lit 0))))),
  ([(.bin .lt addD3Rz2 addD3Rz2), (.bin .le (.bin (.shl .u64) (.var 8) (.bin .sub (.var 9) (.var 4))) addD3Rz2), (.bin .eq (.un .bnot (.un .bnot (.var 5))) (.un .bnot (.un .bnot (.var 0)))), (.bin .lt (.bin .sub (.var 9) (.var 4)) (.lit 64)), (.bin .le (.bin .sub (.var 9) (.var 4)) (.lit 70)), (.bin .lt (.var 4) (.var 9)), (.un .bnot (.bin .eq (.var 8) (.lit 0))), (.un .bnot (.bin .eq (.var 3) (.lit 0))), (.bin .le (.lit 0) (.var 3)), (.bin .le (.var 3) (.lit 16777215)), (.bin .le (.lit (-149)) (.var 4)), (.bin .le (.var 4) (.lit 104)), (.bin .le (.lit 0) (.var 8)), (.bin .le (.var 8) (.lit 16777215)), (.bin .le (.lit (-149)) (.var 9)), (.bin .le (.var 9) (.lit 104))], (.int .u64 (.bin .add (.ite (.un .bnot (.un .bnot (.var 5))) (.lit 2147483648) (.lit 0)) (.fn 5 (.bin .add (.bin .mul (.un (.wrap .u64) (.bin .add (.bin (.shr .u64) (.var 8) (.bin .sub (.lit 64) (.bin .sub (.var 9) (.var 4)))) (.lit 1))) (.lit 18446744073709551616)) addD3Rz2) (.bin .sub (.var 9) (.bin .sub (.var 9) (.var 4))) (.lit 0))))),
  ([(.bin .le addD3Rz2 addD3Rz2), (.bin .le (.bin (.shl .u64) (.var 8) (.bin .sub (.var 9) (.var 4))) addD3Rz2), (.bin .eq (.un .bnot (.un .bnot (.var 5))) (.un .bnot (.un .bnot (.var 0)))), (.bin .lt (.bin .sub (.var 9) (.var 4)) (.lit 64)), (.bin .le (.bin .sub (.var 9) (.var 4)) (.lit 70)), (.bin .lt (.var 4) (.var 9)), (.un .bnot (.bin .eq (.var 8) (.lit 0))), (.un .bnot (.bin .eq (.var 3) (.lit 0))), (.bin .le (.lit 0) (.var 3)), (.bin .le (.var 3) (.lit 16777215)), (.bin .le (.lit (-149)) (.var 4)), (.bin .le (.var 4) (.lit 104)), (.bin .le (.lit 0) (.var 8)), (.bin .le (.var 8) (.lit 16777215)), (.bin .le (.lit (-149)) (.var 9)), (.bin .le (.var 9) (.lit 104))], (.int .u64 (.bin .add (.ite (.un .bnot (.un .bnot (.var 5))) (.lit 2147483648) (.lit 0)) (.fn 5 (.bin .add (.bin .mul addD3Rz0 (.lit 18446744073709551616)) addD3Rz2) (.bin .sub (.var 9) (.bin .sub (.var 9) (.var 4))) (.lit 0))))),
  ([(.bin .lt (.bin (.shr .u64) (.var 8) (.bin .sub (.lit 64) (.bin .sub (.var 9) (.var 4)))) (.lit 0)), (.bin .lt (.bin (.shl .u64) (.var 8) (.bin .sub (.var 9) (.var 4))) (.var 3)), (.un .bnot (.bin .eq (.un .bnot (.un .bnot (.var 5))) (.un .bnot (.un .bnot (.var 0))))), (.bin .lt (.bin .sub (.var 9) (.var 4)) (.lit 64)), (.bin .le (.bin .sub (.var 9) (.var 4)) (.lit 70)), (.bin .lt (.var 4) (.var 9)), (.un .bnot (.bin .eq (.var 8) (.lit 0))), (.un .bnot (.bin .eq (.var 3) (.lit 0))), (.bin .le (.lit 0) (.var 3)), (.bin .le (.var 3) (.lit 16777215)), (.bin .le (.lit (-149)) (.var 4)), (.bin .le (.var 4) (.lit 104)), (.bin .le (.lit 0) (.var 8)), (.bin .le (.var 8) (.lit 16777215)), (.bin .le (.lit (-149)) (.var 9)), (.bin .le (.var 9) (.lit 104))], (.int .u64 (.bin .add (.ite (.un .bnot (.un .bnot (.var 0))) (.lit 2147483648) (.lit 0)) (.fn 5 (.bin .add (.lit 0) (.bin .sub (.var 3) (.bin (.shl .u64) (.var 8) (.bin .sub (.var 9) (.var 4))))) (.bin .sub (.var 9) (.bin .sub (.var 9) (.var 4))) (.lit 0))))),
  ([(.bin .lt addD3Rz0 (.lit 1)), addD3Rz6, (.bin .lt (.bin (.shl .u64) (.var 8) (.bin .sub (.var 9) (.var 4))) (.var 3)), (.un .bnot (.bin .eq (.un .bnot (.un .bnot (.var 5))) (.un .bnot (.un .bnot (.var 0))))), (.bin .lt (.bin .sub (.var 9) (.var 4)) (.lit 64)), (.bin .le (.bin .sub (.var 9) (.var 4)) (.lit 70)), (.bin .lt (.var 4) (.var 9)), (.un .bnot (.bin .eq (.var 8) (.lit 0))), (.un .bnot (.bin .eq (.var 3) (.lit 0))), (.bin .le (.lit 0) (.var 3)), (.bin .le (.var 3) (.lit 16777215)), (.bin .le (.lit (-149)) (.var 4)), (.bin .le (.var 4) (.lit 104)), (.bin .le (.lit 0) (.var 8)), (.bin .le (.var 8) (.lit 16777215)), (.bin .le (.lit (-149)) (.var 9)), (.bin .le (.var 9) (.lit 104))], (.int .u64 (.bin .add (.ite (.un .bnot (.un .bnot (.var 0))) (.lit 2147483648) (.lit 0)) (.fn 5 (.bin .add (.lit 0) (.bin .sub (.var 3) (.bin (.shl .u64) (.var 8) (.bin .sub (.var 9) (.var 4))))) (.bin .sub (.var 9) (.bin .sub (.var 9) (.var 4))) (.lit 0))))),
  ([(.bin .eq (.bin (.bits .or .u64) (.un (.wrap .u64) (.bin .add addD3Rz0 (.lit (-1)))) addD3Rz4) (.lit 0)), (.bin .le (.lit 1) addD3Rz0), addD3Rz6, (.bin .lt (.bin (.shl .u64) (.var 8) (.bin .sub (.var 9) (.var 4))) (.var 3)), (.un .bnot (.bin .eq (.un .bnot (.un .bnot (.var 5))) (.un .bnot (.un .bnot (.var 0))))), (.bin .lt (.bin .sub (.var 9) (.var 4)) (.lit 64)), (.bin .le (.bin .sub (.var 9) (.var 4)) (.lit 70)), (.bin .lt (.var 4) (.var 9)), (.un .bnot (.bin .eq (.var 8) (.lit 0))), (.un .bnot (.bin .eq (.var 3) (.lit 0))), (.bin .le (.lit 0) (.var 3)), (.bin .le (.var 3) (.lit 16777215)), (.bin .le (.lit (-149)) (.var 4)), (.bin .le (.var 4) (.lit 104)), (.bin .le (.lit 0) (.var 8)), (.bin .le (.var 8) (.lit 16777215)), (.bin .le (.lit (-149)) (.var 9)), (.bin .le (.var 9) (.lit 104))], (.int .u64 (.ite (.un .bnot (.un .bnot (.lit 0))) (.lit 2147483648) (.lit 0)))),
  ([(.un .bnot (.bin .eq (.bin (.bits .or .u64) (.un (.wrap .u64) (.bin .add addD3Rz0 (.lit (-1)))) addD3Rz4) (.lit 0))), (.bin .le (.lit 1) addD3Rz0), addD3Rz6, (.bin .lt (.bin (.shl .u64) (.var 8) (.bin .sub (.var 9) (.var 4))) (.var 3)), (.un .bnot (.bin .eq (.un .bnot (.un .bnot (.var 5))) (.un .bnot (.un .bnot (.var 0))))), (.bin .lt (.bin .sub (.var 9) (.var 4)) (.lit 64)), (.bin .le (.bin .sub (.var 9) (.var 4)) (.lit 70)), (.bin .lt (.var 4) (.var 9)), (.un .bnot (.bin .eq (.var 8) (.lit 0))), (.un .bnot (.bin .eq (.var 3) (.lit 0))), (.bin .le (.lit 0) (.var 3)), (.bin .le (.var 3) (.lit 16777215)), (.bin .le (.lit (-149)) (.var 4)), (.bin .le (.var 4) (.lit 104)), (.bin .le (.lit 0) (.var 8)), (.bin .le (.var 8) (.lit 16777215)), (.bin .le (.lit (-149)) (.var 9)), (.bin .le (.var 9) (.lit 104))], (.int .u64 (.bin .add (.ite (.un .bnot (.un .bnot (.var 5))) (.lit 2147483648) (.lit 0)) (.fn 5 (.bin .add (.bin .mul (.un (.wrap .u64) (.bin .add addD3Rz0 (.lit (-1)))) (.lit 18446744073709551616)) addD3Rz4) (.bin .sub (.var 9) (.bin .sub (.var 9) (.var 4))) (.lit 0))))),
  ([(.bin .lt (.bin (.shr .u64) (.var 8) (.bin .sub (.lit 64) (.bin .sub (.var 9) (.var 4)))) (.lit 0)), (.bin .le (.var 3) (.bin (.shl .u64) (.var 8) (.bin .sub (.var 9) (.var 4)))), (.un .bnot (.bin .eq (.un .bnot (.un .bnot (.var 5))) (.un .bnot (.un .bnot (.var 0))))), (.bin .lt (.bin .sub (.var 9) (.var 4)) (.lit 64)), (.bin .le (.bin .sub (.var 9) (.var 4)) (.lit 70)), (.bin .lt (.var 4) (.var 9)), (.un .bnot (.bin .eq (.var 8) (.lit 0))), (.un .bnot (.bin .eq (.var 3) (.lit 0))), (.bin .le (.lit 0) (.var 3)), (.bin .le (.var 3) (.lit 16777215)), (.bin .le (.lit (-149)) (.var 4)), (.bin .le (.var 4) (.lit 104)), (.bin .le (.lit 0) (.var 8)), (.bin .le (.var 8) (.lit 16777215)), (.bin .le (.lit (-149)) (.var 9)), (.bin .le (.var 9) (.lit 104))], (.int .u64 (.bin .add (.ite (.un .bnot (.un .bnot (.var 0))) (.lit 2147483648) (.lit 0)) (.fn 5 (.bin .add (.lit 0) (.un (.wrap .u64) (.bin .sub (.var 3) (.bin (.shl .u64) (.var 8) (.bin .sub (.var 9) (.var 4)))))) (.bin .sub (.var 9) (.bin .sub (.var 9) (.var 4))) (.lit 0))))),
  ([(.bin .eq (.bin (.bits .or .u64) addD3Rz0 addD3Rz4) (.lit 0)), addD3Rz6, (.bin .le (.var 3) (.bin (.shl .u64) (.var 8) (.bin .sub (.var 9) (.var 4)))), (.un .bnot (.bin .eq (.un .bnot (.un .bnot (.var 5))) (.un .bnot (.un .bnot (.var 0))))), (.bin .lt (.bin .sub (.var 9) (.var 4)) (.lit 64)), (.bin .le (.bin .sub (.var 9) (.var 4)) (.lit 70)), (.bin .lt (.var 4) (.var 9)), (.un .bnot (.bin .eq (.var 8) (.lit 0))), (.un .bnot (.bin .eq (.var 3) (.lit 0))), (.bin .le (.lit 0) (.var 3)), (.bin .le (.var 3) (.lit 16777215)), (.bin .le (.lit (-149)) (.var 4)), (.bin .le (.var 4) (.lit 104)), (.bin .le (.lit 0) (.var 8)), (.bin .le (.var 8) (.lit 16777215)), (.bin .le (.lit (-149)) (.var 9)), (.bin .le (.var 9) (.lit 104))], (.int .u64 (.ite (.un .bnot (.un .bnot (.lit 0))) (.lit 2147483648) (.lit 0)))),
  ([(.un .bnot (.bin .eq (.bin (.bits .or .u64) addD3Rz0 addD3Rz4) (.lit 0))), addD3Rz6, (.bin .le (.var 3) (.bin (.shl .u64) (.var 8) (.bin .sub (.var 9) (.var 4)))), (.un .bnot (.bin .eq (.un .bnot (.un .bnot (.var 5))) (.un .bnot (.un .bnot (.var 0))))), (.bin .lt (.bin .sub (.var 9) (.var 4)) (.lit 64)), (.bin .le (.bin .sub (.var 9) (.var 4)) (.lit 70)), (.bin .lt (.var 4) (.var 9)), (.un .bnot (.bin .eq (.var 8) (.lit 0))), (.un .bnot (.bin .eq (.var 3) (.lit 0))), (.bin .le (.lit 0) (.var 3)), (.bin .le (.var 3) (.lit 16777215)), (.bin .le (.lit (-149)) (.var 4)), (.bin .le (.var 4) (.lit 104)), (.bin .le (.lit 0) (.var 8)), (.bin .le (.var 8) (.lit 16777215)), (.bin .le (.lit (-149)) (.var 9)), (.bin .le (.var 9) (.lit 104))], (.int .u64 (.bin .add (.ite (.un .bnot (.un .bnot (.var 5))) (.lit 2147483648) (.lit 0)) (.fn 5 (.bin .add (.bin .mul addD3Rz0 (.lit 18446744073709551616)) addD3Rz4) (.bin .sub (.var 9) (.bin .sub (.var 9) (.var 4))) (.lit 0))))),
  ([(.bin .eq (.un .bnot (.un .bnot (.var 0))) (.un .bnot (.un .bnot (.var 5)))), (.bin .lt (.lit 70) (.bin .sub (.var 4) (.var 9))), (.bin .le (.var 9) (.var 4)), (.un .bnot (.bin .eq (.var 8) (.lit 0))), (.un .bnot (.bin .eq (.var 3) (.lit 0))), (.bin .le (.lit 0) (.var 3)), (.bin .le (.var 3) (.lit 16777215)), (.bin .le (.lit (-149)) (.var 4)), (.bin .le (.var 4) (.lit 104)), (.bin .le (.lit 0) (.var 8)), (.bin .le (.var 8) (.lit 16777215)), (.bin .le (.lit (-149)) (.var 9)), (.bin .le (.var 9) (.lit 104))], (.int .u64 (.bin .add (.ite (.un .bnot (.un .bnot (.var 0))) (.lit 2147483648) (.lit 0)) (.fn 5 (.bin .add (.bin .mul (.bin .mul (.var 3) (.lit 64)) (.lit 18446744073709551616)) (.lit 1)) (.bin .add (.var 4) (.lit (-70))) (.lit 0))))),
  ([(.bin .eq (.bin (.bits .or .u64) (.bin .add (.bin .mul (.var 3) (.lit 64)) (.lit (-1))) (.lit 18446744073709551615)) (.lit 0)), (.un .bnot (.bin .eq (.un .bnot (.un .bnot (.var 0))) (.un .bnot (.un .bnot (.var 5))))), (.bin .lt (.lit 70) (.bin .sub (.var 4) (.var 9))), (.bin .le (.var 9) (.var 4)), (.un .bnot (.bin .eq (.var 8) (.lit 0))), (.un .bnot (.bin .eq (.var 3) (.lit 0))), (.bin .le (.lit 0) (.var 3)), (.bin .le (.var 3) (.lit 16777215)), (.bin .le (.lit (-149)) (.var 4)), (.bin .le (.var 4) (.lit 104)), (.bin .le (.lit 0) (.var 8)), (.bin .le (.var 8) (.lit 16777215)), (.bin .le (.lit (-149)) (.var 9)), (.bin .le (.var 9) (.lit 104))], (.int .u64 (.ite (.un .bnot (.un .bnot (.lit 0))) (.lit 2147483648) (.lit 0)))),
  ([(.un .bnot (.bin .eq (.bin (.bits .or .u64) (.bin .add (.bin .mul (.var 3) (.lit 64)) (.lit (-1))) (.lit 18446744073709551615)) (.lit 0))), (.un .bnot (.bin .eq (.un .bnot (.un .bnot (.var 0))) (.un .bnot (.un .bnot (.var 5))))), (.bin .lt (.lit 70) (.bin .sub (.var 4) (.var 9))), (.bin .le (.var 9) (.var 4)), (.un .bnot (.bin .eq (.var 8) (.lit 0))), (.un .bnot (.bin .eq (.var 3) (.lit 0))), (.bin .le (.lit 0) (.var 3)), (.bin .le (.var 3) (.lit 16777215)), (.bin .le (.lit (-149)) (.var 4)), (.bin .le (.var 4) (.lit 104)), (.bin .le (.lit 0) (.var 8)), (.bin .le (.var 8) (.lit 16777215)), (.bin .le (.lit (-149)) (.var 9)), (.bin .le (.var 9) (.lit 104))], (.int .u64 (.bin .add (.ite (.un .bnot (.un .bnot (.var 0))) (.lit 2147483648) (.lit 0)) (.fn 5 (.bin .add (.bin .mul (.bin .add (.bin .mul (.var 3) (.lit 64)) (.lit (-1))) (.lit 18446744073709551616)) (.lit 18446744073709551615)) (.bin .add (.var 4) (.lit (-70))) (.lit 0))))),
  ([(.bin .lt (.var 8) (.var 8)), (.bin .eq (.un .bnot (.un .bnot (.var 0))) (.un .bnot (.un .bnot (.var 5)))), (.bin .le (.lit 64) (.bin .sub (.var 4) (.var 9))), (.bin .le (.bin .sub (.var 4) (.var 9)) (.lit 70)), (.bin .le (.var 9) (.var 4)), (.un .bnot (.bin .eq (.var 8) (.lit 0))), (.un .bnot (.bin .eq (.var 3) (.lit 0))), (.bin .le (.lit 0) (.var 3)), (.bin .le (.var 3) (.lit 16777215)), (.bin .le (.lit (-149)) (.var 4)), (.bin .le (.var 4) (.lit 104)), (.bin .le (.lit 0) (.var 8)), (.bin .le (.var 8) (.lit 16777215)), (.bin .le (.lit (-149)) (.var 9)), (.bin .le (.var 9) (.lit 104))], (.int .u64 (.bin .add (.ite (.un .bnot (.un .bnot (.var 0))) (.lit 2147483648) (.lit 0)) (.fn 5 (.bin .add (.bin .mul (.un (.wrap .u64) (.bin .add (.bin (.shl .u64) (.var 3) (.bin .add (.bin .sub (.var 4) (.var 9)) (.lit (-64)))) (.lit 1))) (.lit 18446744073709551616)) (.var 8)) (.bin .sub (.var 4) (.bin .sub (.var 4) (.var 9))) (.lit 0))))),
  ([(.bin .le (.var 8) (.var 8)), (.bin .eq (.un .bnot (.un .bnot (.var 0))) (.un .bnot (.un .bnot (.var 5)))), (.bin .le (.lit 64) (.bin .sub (.var 4) (.var 9))), (.bin .le (.bin .sub (.var 4) (.var 9)) (.lit 70)), (.bin .le (.var 9) (.var 4)), (.un .bnot (.bin .eq (.var 8) (.lit 0))), (.un .bnot (.bin .eq (.var 3) (.lit 0))), (.bin .le (.lit 0) (.var 3)), (.bin .le (.var 3) (.lit 16777215)), (.bin .le (.lit (-149)) (.var 4)), (.bin .le (.var 4) (.lit 104)), (.bin .le (.lit 0) (.var 8)), (.bin .le (.var 8) (.lit 16777215)), (.bin .le (.lit (-149)) (.var 9)), (.bin .le (.var 9) (.lit 104))], (.int .u64 (.bin .add (.ite (.un .bnot (.un .bnot (.var 0))) (.lit 2147483648) (.lit 0)) (.fn 5 (.bin .add (.bin .mul (.bin (.shl .u64) (.var 3) (.bin .add (.bin .sub (.var 4) (.var 9)) (.lit (-64)))) (.lit 18446744073709551616)) (.var 8)) (.bin .sub (.var 4) (.bin .sub (.var 4) (.var 9))) (.lit 0))))),
  ([(.bin .lt (.bin (.shl .u64) (.var 3) (.bin .add (.bin .sub (.var 4) (.var 9)) (.lit (-64)))) (.lit 1)), (.un .bnot (.bin .eq (.un .bnot (.un .bnot (.var 0))) (.un .bnot (.un .bnot (.var 5))))), (.bin .le (.lit 64) (.bin .sub (.var 4) (.var 9))), (.bin .le (.bin .sub (.var 4) (.var 9)) (.lit 70)), (.bin .le (.var 9) (.var 4)), (.un .bnot (.bin .eq (.var 8) (.lit 0))), (.un .bnot (.bin .eq (.var 3) (.lit 0))), (.bin .le (.lit 0) (.var 3)), (.bin .le (.var 3) (.lit 16777215)), (.bin .le (.lit (-149)) (.var 4)), (.bin .le (.var 4) (.lit 104)), (.bin .le (.lit 0) (.var 8)), (.bin .le (.var 8) (.lit 16777215)), (.bin .le (.lit (-149)) (.var 9)), (.bin .le (.var 9) (.lit 104))], (.int .u64 (.bin .add (.ite (.un .bnot (.un .bnot (.var 5))) (.lit 2147483648) (.lit 0)) (.fn 5 (.bin .add (.lit 0) (.var 8)) (.bin .sub (.var 4) (.bin .sub (.var 4) (.var 9))) (.lit 0))))),
  ([(.bin .eq (.bin (.bits .or .u64) (.un (.wrap .u64) (.bin .add (.bin (.shl .u64) (.var 3) (.bin .add (.bin .sub (.var 4) (.var 9)) (.lit (-64)))) (.lit (-1)))) (.un (.wrap .u64) (.bin .sub (.lit 0) (.var 8)))) (.lit 0)), (.bin .le (.lit 1) (.bin (.shl .u64) (.var 3) (.bin .add (.bin .sub (.var 4) (.var 9)) (.lit (-64))))), (.un .bnot (.bin .eq (.un .bnot (.un .bnot (.var 0))) (.un .bnot (.un .bnot (.var 5))))), (.bin .le (.lit 64) (.bin .sub (.var 4) (.var 9))), (.bin .le (.bin .sub (.var 4) (.var 9)) (.lit 70)), (.bin .le (.var 9) (.var 4)), (.un .bnot (.bin .eq (.var 8) (.lit 0))), (.un .bnot (.bin .eq (.var 3) (.lit 0))), (.bin .le (.lit 0) (.var 3)), (.bin .le (.var 3) (.lit 16777215)), (.bin .le (.lit (-149)) (.var 4)), (.bin .le (.var 4) (.lit 104)), (.bin .le (.lit 0) (.var 8)), (.bin .le (.var 8) (.lit 16777215)), (.bin .le (.lit (-149)) (.var 9)), (.bin .le (.var 9) (.lit 104))], (.int .u64 (.ite (.un .bnot (.un .bnot (.lit 0))) (.lit 2147483648) (.lit 0)))),
  ([(.un .bnot (.bin .eq (.bin (.bits .or .u64) (.un (.wrap .u64) (.bin .add (.bin (.shl .u64) (.var 3) (.bin .add (.bin .sub (.var 4) (.var 9)) (.lit (-64)))) (.lit (-1)))) (.un (.wrap .u64) (.bin .sub (.lit 0) (.var 8)))) (.lit 0))), (.bin .le (.lit 1) (.bin (.shl .u64) (.var 3) (.bin .add (.bin .sub (.var 4) (.var 9)) (.lit (-64))))), (.un .bnot (.bin .eq (.un .bnot (.un .bnot (.var 0))) (.un .bnot (.un .bnot (.var 5))))), (.bin .le (.lit 64) (.bin .sub (.var 4) (.var 9))), (.bin .le (.bin .sub (.var 4) (.var 9)) (.lit 70)), (.bin .le (.var 9) (.var 4)), (.un .bnot (.bin .eq (.var 8) (.lit 0))), (.un .bnot (.bin .eq (.var 3) (.lit 0))), (.bin .le (.lit 0) (.var 3)), (.bin .le (.var 3) (.lit 16777215)), (.bin .le (.lit (-149)) (.var 4)), (.bin .le (.var 4) (.lit 104)), (.bin .le (.lit 0) (.var 8)), (.bin .le (.var 8) (.lit 16777215)), (.bin .le (.lit (-149)) (.var 9)), (.bin .le (.var 9) (.lit 104))], (.int .u64 (.bin .add (.ite (.un .bnot (.un .bnot (.var 0))) (.lit 2147483648) (.lit 0)) (.fn 5 (.bin .add (.bin .mul (.un (.wrap .u64) (.bin .add (.bin (.shl .u64) (.var 3) (.bin .add (.bin .sub (.var 4) (.var 9)) (.lit (-64)))) (.lit (-1)))) (.lit 18446744073709551616)) (.un (.wrap .u64) (.bin .sub (.lit 0) (.var 8)))) (.bin .sub (.var 4) (.bin .sub (.var 4) (.var 9))) (.lit 0))))),
  ([(.bin .lt (.bin .add (.var 3) (.var 8)) (.var 3)), (.bin .eq (.un .bnot (.un .bnot (.var 0))) (.un .bnot (.un .bnot (.var 5)))), (.bin .eq (.bin .sub (.var 4) (.var 9)) (.lit 0)), (.bin .lt (.bin .sub (.var 4) (.var 9)) (.lit 64)), (.bin .le (.bin .sub (.var 4) (.var 9)) (.lit 70)), (.bin .le (.var 9) (.var 4)), (.un .bnot (.bin .eq (.var 8) (.lit 0))), (.un .bnot (.bin .eq (.var 3) (.lit 0))), (.bin .le (.lit 0) (.var 3)), (.bin .le (.var 3) (.lit 16777215)), (.bin .le (.lit (-149)) (.var 4)), (.bin .le (.var 4) (.lit 104)), (.bin .le (.lit 0) (.var 8)), (.bin .le (.var 8) (.lit 16777215)), (.bin .le (.lit (-149)) (.var 9)), (.bin .le (.var 9) (.lit 104))], (.int .u64 (.bin .add (.ite (.un .bnot (.un .bnot (.var 0))) (.lit 2147483648) (.lit 0)) (.fn 5 (.bin .add (.lit 18446744073709551616) (.bin .add (.var 3) (.var 8))) (.bin .sub (.var 4) (.bin .sub (.var 4) (.var 9))) (.lit 0))))),
  ([(.bin .lt (.bin .add (.var 3) (.var 8)) (.bin .add (.var 3) (.var 8))), (.bin .le (.var 3) (.bin .add (.var 3) (.var 8))), (.bin .eq (.un .bnot (.un .bnot (.var 0))) (.un .bnot (.un .bnot (.var 5)))), (.bin .eq (.bin .sub (.var 4) (.var 9)) (.lit 0)), (.bin .lt (.bin .sub (.var 4) (.var 9)) (.lit 64)), (.bin .le (.bin .sub (.var 4) (.var 9)) (.lit 70)), (.bin .le (.var 9) (.var 4)), (.un .bnot (.bin .eq (.var 8) (.lit 0))), (.un .bnot (.bin .eq (.var 3) (.lit 0))), (.bin .le (.lit 0) (.var 3)), (.bin .le (.var 3) (.lit 16777215)), (.bin .le (.lit (-149)) (.var 4)), (.bin .le (.var 4) (.lit 104)), (.bin .le (.lit 0) (.var 8)), (.bin .le (.var 8) (.lit 16777215)), (.bin .le (.lit (-149)) (.var 9)), (.bin .le (.var 9) (.lit 104))], (.int .u64 (.bin .add (.ite (.un .bnot (.un .bnot (.var 0))) (.lit 2147483648) (.lit 0)) (.fn 5 (.bin .add (.lit 18446744073709551616) (.bin .add (.var 3) (.var 8))) (.bin .sub (.var 4) (.bin .sub (.var 4) (.var 9))) (.lit 0))))),
  ([(.bin .le (.bin .add (.var 3) (.var 8)) (.bin .add (.var 3) (.var 8))), (.bin .le (.var 3) (.bin .add (.var 3) (.var 8))), (.bin .eq (.un .bnot (.un .bnot (.var 0))) (.un .bnot (.un .bnot (.var 5)))), (.bin .eq (.bin .sub (.var 4) (.var 9)) (.lit 0)), (.bin .lt (.bin .sub (.var 4) (.var 9)) (.lit 64)), (.bin .le (.bin .sub (.var 4) (.var 9)) (.lit 70)), (.bin .le (.var 9) (.var 4)), (.un .bnot (.bin .eq (.var 8) (.lit 0))), (.un .bnot (.bin .eq (.var 3) (.lit 0))), (.bin .le (.lit 0) (.var 3)), (.bin .le (.var 3) (.lit 16777215)), (.bin .le (.lit (-149)) (.var 4)), (.bin .le (.var 4) (.lit 104)), (.bin .le (.lit 0) (.var 8)), (.bin .le (.var 8) (.lit 16777215)), (.bin .le (.lit (-149)) (.var 9)), (.bin .le (.var 9) (.lit 104))], (.int .u64 (.bin .add (.ite (.un .bnot (.un .bnot (.var 0))) (.lit 2147483648) (.lit 0)) (.fn 5 (.bin .add (.lit 0) (.bin .add (.var 3) (.var 8))) (.bin .sub (.var 4) (.bin .sub (.var 4) (.var 9))) (.lit 0))))),
  ([(.bin .lt (.var 3) (.var 8)), (.un .bnot (.bin .eq (.un .bnot (.un .bnot (.var 0))) (.un .bnot (.un .bnot (.var 5))))), (.bin .eq (.bin .sub (.var 4) (.var 9)) (.lit 0)), (.bin .lt (.bin .sub (.var 4) (.var 9)) (.lit 64)), (.bin .le (.bin .sub (.var 4) (.var 9)) (.lit 70)), (.bin .le (.var 9) (.var 4)), (.un .bnot (.bin .eq (.var 8) (.lit 0))), (.un .bnot (.bin .eq (.var 3) (.lit 0))), (.bin .le (.lit 0) (.var 3)), (.bin .le (.var 3) (.lit 16777215)), (.bin .le (.lit (-149)) (.var 4)), (.bin .le (.var 4) (.lit 104)), (.bin .le (.lit 0) (.var 8)), (.bin .le (.var 8) (.lit 16777215)), (.bin .le (.lit (-149)) (.var 9)), (.bin .le (.var 9) (.lit 104))], (.int .u64 (.bin .add (.ite (.un .bnot (.un .bnot (.var 5))) (.lit 2147483648) (.lit 0)) (.fn 5 (.bin .add (.lit 0) (.bin .sub (.var 8) (.var 3))) (.bin .sub (.var 4) (.bin .sub (.var 4) (.var 9))) (.lit 0))))),
  ([(.bin .eq (.bin (.bits .or .u64) (.lit 0) (.un (.wrap .u64) (.bin .sub (.var 3) (.var 8)))) (.lit 0)), (.bin .le (.var 8) (.var 3)), (.un .bnot (.bin .eq (.un .bnot (.un .bnot (.var 0))) (.un .bnot (.un .bnot (.var 5))))), (.bin .eq (.bin .sub (.var 4) (.var 9)) (.lit 0)), (.bin .lt (.bin .sub (.var 4) (.var 9)) (.lit 64)), (.bin .le (.bin .sub (.var 4) (.var 9)) (.lit 70)), (.bin .le (.var 9) (.var 4)), (.un .bnot (.bin .eq (.var 8) (.lit 0))), (.un .bnot (.bin .eq (.var 3) (.lit 0))), (.bin .le (.lit 0) (.var 3)), (.bin .le (.var 3) (.lit 16777215)), (.bin .le (.lit (-149)) (.var 4)), (.bin .le (.var 4) (.lit 104)), (.bin .le (.lit 0) (.var 8)), (.bin .le (.var 8) (.lit 16777215)), (.bin .le (.lit (-149)) (.var 9)), (.bin .le (.var 9) (.lit 104))], (.int .u64 (.ite (.un .bnot (.un .bnot (.lit 0))) (.lit 2147483648) (.lit 0)))),
  ([(.un .bnot (.bin .eq (.bin (.bits .or .u64) (.lit 0) (.un (.wrap .u64) (.bin .sub (.var 3) (.var 8)))) (.lit 0))), (.bin .le (.var 8) (.var 3)), (.un .bnot (.bin .eq (.un .bnot (.un .bnot (.var 0))) (.un .bnot (.un .bnot (.var 5))))), (.bin .eq (.bin .sub (.var 4) (.var 9)) (.lit 0)), (.bin .lt (.bin .sub (.var 4) (.var 9)) (.lit 64)), (.bin .le (.bin .sub (.var 4) (.var 9)) (.lit 70)), (.bin .le (.var 9) (.var 4)), (.un .bnot (.bin .eq (.var 8) (.lit 0))), (.un .bnot (.bin .eq (.var 3) (.lit 0))), (.bin .le (.lit 0) (.var 3)), (.bin .le (.var 3) (.lit 16777215)), (.bin .le (.lit (-149)) (.var 4)), (.bin .le (.var 4) (.lit 104)), (.bin .le (.lit 0) (.var 8)), (.bin .le (.var 8) (.lit 16777215)), (.bin .le (.lit (-149)) (.var 9)), (.bin .le (.var 9) (.lit 104))], (.int .u64 (.bin .add (.ite (.un .bnot (.un .bnot (.var 0))) (.lit 2147483648) (.lit 0)) (.fn 5 (.bin .add (.lit 0) (.un (.wrap .u64) (.bin .sub (.var 3) (.var 8)))) (.bin .sub (.var 4) (.bin .sub (.var 4) (.var 9))) (.lit 0))))),
  ([(.bin .lt addD3Rz3 (.bin (.shl .u64) (.var 3) (.bin .sub (.var 4) (.var 9)))), (.bin .eq (.un .bnot (.un .bnot (.var 0))) (.un .bnot (.un .bnot (.var 5)))), (.un .bnot (.bin .eq (.bin .sub (.var 4) (.var 9)) (.lit 0))), (.bin .lt (.bin .sub (.var 4) (.var 9)) (.lit 64)), (.bin .le (.bin .sub (.var 4) (.var 9)) (.lit 70)), (.bin .le (.var 9) (.var 4)), (.un .bnot (.bin .eq (.var 8) (.lit 0))), (.un .bnot (.bin .eq (.var 3) (.lit 0))), (.bin .le (.lit 0) (.var 3)), (.bin .le (.var 3) (.lit 16777215)), (.bin .le (.lit (-149)) (.var 4)), (.bin .le (.var 4) (.lit 104)), (.bin .le (.lit 0) (.var 8)), (.bin .le (.var 8) (.lit 16777215)), (.bin .le (.lit (-149)) (.var 9)), (.bin .le (.var 9) (.lit 104))], (.int .u64 (.bin .add (.ite (.un .bnot (.un .bnot (.var 0))) (.lit 2147483648) (.lit 0)) (.fn 5 (.bin .add (.bin .mul (.un (.wrap .u64) (.bin .add (.bin (.shr .u64) (.var 3) (.bin .sub (.lit 64) (.bin .sub (.var 4) (.var 9)))) (.lit 1))) (.lit 18446744073709551616)) addD3Rz3) (.bin .sub (.var 4) (.bin .sub (.var 4) (.var 9))) (.lit 0))))),
  ([(.bin .lt addD3Rz3 addD3Rz3), (.bin .le (.bin (.shl .u64) (.var 3) (.bin .sub (.var 4) (.var 9))) addD3Rz3), (.bin .eq (.un .bnot (.un .bnot (.var 0))) (.un .bnot (.un .bnot (.var 5)))), (.un .bnot (.bin .eq (.bin .sub (.var 4) (.var 9)) (.lit 0))), (.bin .lt (.bin .sub (.var 4) (.var 9)) (.lit 64)), (.bin .le (.bin .sub (.var 4) (.var 9)) (.lit 70)), (.bin .le (.var 9) (.var 4)), (.un .bnot (.bin .eq (.var 8) (.lit 0))), (.un .bnot (.bin .eq (.var 3) (.lit 0))), (.bin .le (.lit 0) (.var 3)), (.bin .le (.var 3) (.lit 16777215)), (.bin .le (.lit (-149)) (.var 4)), (.bin .le (.var 4) (.lit 104)), (.bin .le (.lit 0) (.var 8)), (.bin .le (.var 8) (.lit 16777215)), (.bin .le (.lit (-149)) (.var 9)), (.bin .le (.var 9) (.lit 104))], (.int .u64 (.bin .add (.ite (.un .bnot (.un .bnot (.var 0))) (.lit 2147483648) (.lit 0)) (.fn 5 (.bin .add (.bin .mul (.un (.wrap .u64) (.bin .add (.bin (.shr .u64) (.var 3) (.bin .sub (.lit 64) (.bin .sub (.var 4) (.var 9)))) (.lit 1))) (.lit 18446744073709551616)) addD3Rz3) (.bin .sub (.var 4) (.bin .sub (.var 4) (.var 9))) (.lit 0))))),
  ([(.bin .le addD3Rz3 addD3Rz3), (.bin .le (.bin (.shl .u64) (.var 3) (.bin .sub (.var 4) (.var 9))) addD3Rz3), (.bin .eq (.un .bnot (.un .bnot (.var 0))) (.un .bnot (.un .bnot (.var 5)))), (.un .bnot (.bin .eq (.bin .sub (.var 4) (.var 9)) (.lit 0))), (.bin .lt (.bin .sub (.var 4) (.var 9)) (.lit 64)), (.bin .le (.bin .sub (.var 4) (.var 9)) (.lit 70)), (.bin .le (.var 9) (.var 4)), (.un .bnot (.bin .eq (.var 8) (.lit 0))), (.un .bnot (.bin .eq (.var 3) (.lit 0))), (.bin .le (.lit 0) (.var 3)), (.bin .le (.var 3) (.lit 16777215)), (.bin .le (.lit (-149)) (.var 4)), (.bin .le (.var 4) (.lit 104)), (.bin .le (.lit 0) (.var 8)), (.bin .le (.var 8) (.lit 16777215)), (.bin .le (.lit (-149)) (.var 9)), (.bin .le (.var 9) (.lit 104))], (.int .u64 (.bin .add (.ite (.un .bnot (.un .bnot (.var 0))) (.lit 2147483648) (.lit 0)) (.fn 5 (.bin .add (.bin .mul addD3Rz1 (.lit 18446744073709551616)) addD3Rz3) (.bin .sub (.var 4) (.bin .sub (.var 4) (.var 9))) (.lit 0))))),
  ([(.bin .lt (.bin (.shr .u64) (.var 3) (.bin .sub (.lit 64) (.bin .sub (.var 4) (.var 9)))) (.lit 0)), (.bin .lt (.bin (.shl .u64) (.var 3) (.bin .sub (.var 4) (.var 9))) (.var 8)), (.un .bnot (.bin .eq (.un .bnot (.un .bnot (.var 0))) (.un .bnot (.un .bnot (.var 5))))), (.un .bnot (.bin .eq (.bin .sub (.var 4) (.var 9)) (.lit 0))), (.bin .lt (.bin .sub (.var 4) (.var 9)) (.lit 64)), (.bin .le (.bin .sub (.var 4) (.var 9)) (.lit 70)), (.bin .le (.var 9) (.var 4)), (.un .bnot (.bin .eq (.var 8) (.lit 0))), (.un .bnot (.bin .eq (.var 3) (.lit 0))), (.bin .le (.lit 0) (.var 3)), (.bin .le (.var 3) (.lit 16777215)), (.bin .le (.lit (-149)) (.var 4)), (.bin .le (.var 4) (.lit 104)), (.bin .le (.lit 0) (.var 8)), (.bin .le (.var 8) (.lit 16777215)), (.bin .le (.lit (-149)) (.var 9)), (.bin .le (.var 9) (.lit 104))], (.int .u64 (.bin .add (.ite (.un .bnot (.un .bnot (.var 5))) (.lit 2147483648) (.lit 0)) (.fn 5 (.bin .add (.lit 0) (.bin .sub (.var 8) (.bin (.shl .u64) (.var 3) (.bin .sub (.var 4) (.var 9))))) (.bin .sub (.var 4) (.bin .sub (.var 4) (.var 9))) (.lit 0))))),
  ([(.bin .lt addD3Rz1 (.lit 1)), addD3Rz7, (.bin .lt (.bin (.shl .u64) (.var 3) (.bin .sub (.var 4) (.var 9))) (.var 8)), (.un .bnot (.bin .eq (.un .bnot (.un .bnot (.var 0))) (.un .bnot (.un .bnot (.var 5))))), (.un .bnot (.bin .eq (.bin .sub (.var 4) (.var 9)) (.lit 0))), (.bin .lt (.bin .sub (.var 4) (.var 9)) (.lit 64)), (.bin .le (.bin .sub (.var 4) (.var 9)) (.lit 70)), (.bin .le (.var 9) (.var 4)), (.un .bnot (.bin .eq (.var 8) (.lit 0))), (.un .bnot (.bin .eq (.var 3) (.lit 0))), (.bin .le (.lit 0) (.var 3)), (.bin .le (.var 3) (.lit 16777215)), (.bin .le (.lit (-149)) (.var 4)), (.bin .le (.var 4) (.lit 104)), (.bin .le (.lit 0) (.var 8)), (.bin .le (.var 8) (.lit 16777215)), (.bin .le (.lit (-149)) (.var 9)), (.bin .le (.var 9) (.lit 104))], (.int .u64 (.bin .add (.ite (.un .bnot (.un .bnot (.var 5))) (.lit 2147483648) (.lit 0)) (.fn 5 (.bin .add (.lit 0) (.bin .sub (.var 8) (.bin (.shl .u64) (.var 3) (.bin .sub (.var 4) (.var 9))))) (.bin .sub (.var 4) (.bin .sub (.var 4) (.var 9))) (.lit 0))))),
  ([(.bin .eq (.bin (.bits .or .u64) (.un (.wrap .u64) (.bin .add addD3Rz1 (.lit (-1)))) addD3Rz5) (.lit 0)), (.bin .le (.lit 1) addD3Rz1), addD3Rz7, (.bin .lt (.bin (.shl .u64) (.var 3) (.bin .sub (.var 4) (.var 9))) (.var 8)), (.un .bnot (.bin .eq (.un .bnot (.un .bnot (.var 0))) (.un .bnot (.un .bnot (.var 5))))), (.un .bnot (.bin .eq (.bin .sub (.var 4) (.var 9)) (.lit 0))), (.bin .lt (.bin .sub (.var 4) (.var 9)) (.lit 64)), (.bin .le (.bin .sub (.var 4) (.var 9)) (.lit 70)), (.bin .le (.var 9) (.var 4)), (.un .bnot (.bin .eq (.var 8) (.lit 0))), (.un .bnot (.bin .eq (.var 3) (.lit 0))), (.bin .le (.lit 0) (.var 3)), (.bin .le (.var 3) (.lit 16777215)), (.bin .le (.lit (-149)) (.var 4)), (.bin .le (.var 4) (.lit 104)), (.bin .le (.lit 0) (.var 8)), (.bin .le (.var 8) (.lit 16777215)), (.bin .le (.lit (-149)) (.var 9)), (.bin .le (.var 9) (.lit 104))], (.int .u64 (.ite (.un .bnot (.un .bnot (.lit 0))) (.lit 2147483648) (.lit 0)))),
  ([(.un .bnot (.bin .eq (.bin (.bits .or .u64) (.un (.wrap .u64) (.bin .add addD3Rz1 (.lit (-1)))) addD3Rz5) (.lit 0))), (.bin .le (.lit 1) addD3Rz1), addD3Rz7, (.bin .lt (.bin (.shl .u64) (.var 3) (.bin .sub (.var 4) (.var 9))) (.var 8)), (.un .bnot (.bin .eq (.un .bnot (.un .bnot (.var 0))) (.un .bnot (.un .bnot (.var 5))))), (.un .bnot (.bin .eq (.bin .sub (.var 4) (.var 9)) (.lit 0))), (.bin .lt (.bin .sub (.var 4) (.var 9)) (.lit 64)), (.bin .le (.bin .sub (.var 4) (.var 9)) (.lit 70)), (.bin .le (.var 9) (.var 4)), (.un .bnot (.bin .eq (.var 8) (.lit 0))), (.un .bnot (.bin .eq (.var 3) (.lit 0))), (.bin .le (.lit 0) (.var 3)), (.bin .le (.var 3) (.lit 16777215)), (.bin .le (.lit (-149)) (.var 4)), (.bin .le (.var 4) (.lit 104)), (.bin .le (.lit 0) (.var 8)), (.bin .le (.var 8) (.lit 16777215)), (.bin .le (.lit (-149)) (.var 9)), (.bin .le (.var 9) (.lit 104))], (.int .u64 (.bin .add (.ite (.un .bnot (.un .bnot (.var 0))) (.lit 2147483648) (.lit 0)) (.fn 5 (.bin .add (.bin .mul (.un (.wrap .u64) (.bin .add addD3Rz1 (.lit (-1)))) (.lit 18446744073709551616)) addD3Rz5) (.bin .sub (.var 4) (.bin .sub (.var 4) (.var 9))) (.lit 0))))),
  ([(.bin .lt (.bin (.shr .u64) (.var 3) (.bin .sub (.lit 64) (.bin .sub (.var 4) (.var 9)))) (.lit 0)), (.bin .le (.var 8) (.bin (.shl .u64) (.var 3) (.bin .sub (.var 4) (.var 9)))), (.un .bnot (.bin .eq (.un .bnot (.un .bnot (.var 0))) (.un .bnot (.un .bnot (.var 5))))), (.un .bnot (.bin .eq (.bin .sub (.var 4) (.var 9)) (.lit 0))), (.bin .lt (.bin .sub (.var 4) (.var 9)) (.lit 64)), (.bin .le (.bin .sub (.var 4) (.var 9)) (.lit 70)), (.bin .le (.var 9) (.var 4)), (.un .bnot (.bin .eq (.var 8) (.lit 0))), (.un .bnot (.bin .eq (.var 3) (.lit 0))), (.bin .le (.lit 0) (.var 3)), (.bin .le (.var 3) (.lit 16777215)), (.bin .le (.lit (-149)) (.var 4)), (.bin .le (.var 4) (.lit 104)), (.bin .le (.lit 0) (.var 8)), (.bin .le (.var 8) (.lit 16777215)), (.bin .le (.lit (-149)) (.var 9)), (.bin .le (.var 9) (.lit 104))], (.int .u64 (.bin .add (.ite (.un .bnot (.un .bnot (.var 5))) (.lit 2147483648) (.lit 0)) (.fn 5 (.bin .add (.lit 0) (.un (.wrap .u64) (.bin .sub (.var 8) (.bin (.shl .u64) (.var 3) (.bin .sub (.var 4) (.var 9)))))) (.bin .sub (.var 4) (.bin .sub (.var 4) (.var 9))) (.lit 0))))),
  ([(.bin .eq (.bin (.bits .or .u64) addD3Rz1 addD3Rz5) (.lit 0)), addD3Rz7, (.bin .le (.var 8) (.bin (.shl .u64) (.var 3) (.bin .sub (.var 4) (.var 9)))), (.un .bnot (.bin .eq (.un .bnot (.un .bnot (.var 0))) (.un .bnot (.un .bnot (.var 5))))), (.un .bnot (.bin .eq (.bin .sub (.var 4) (.var 9)) (.lit 0))), (.bin .lt (.bin .sub (.var 4) (.var 9)) (.lit 64)), (.bin .le (.bin .sub (.var 4) (.var 9)) (.lit 70)), (.bin .le (.var 9) (.var 4)), (.un .bnot (.bin .eq (.var 8) (.lit 0))), (.un .bnot (.bin .eq (.var 3) (.lit 0))), (.bin .le (.lit 0) (.var 3)), (.bin .le (.var 3) (.lit 16777215)), (.bin .le (.lit (-149)) (.var 4)), (.bin .le (.var 4) (.lit 104)), (.bin .le (.lit 0) (.var 8)), (.bin .le (.var 8) (.lit 16777215)), (.bin .le (.lit (-149)) (.var 9)), (.bin .le (.var 9) (.lit 104))], (.int .u64 (.ite (.un .bnot (.un .bnot (.lit 0))) (.lit 2147483648) (.lit 0)))),
  ([(.un .bnot (.bin .eq (.bin (.bits .or .u64) addD3Rz1 addD3Rz5) (.lit 0))), addD3Rz7, (.bin .le (.var 8) (.bin (.shl .u64) (.var 3) (.bin .sub (.var 4) (.var 9)))), (.un .bnot (.bin .eq (.un .bnot (.un .bnot (.var 0))) (.un .bnot (.un .bnot (.var 5))))), (.un .bnot (.bin .eq (.bin .sub (.var 4) (.var 9)) (.lit 0))), (.bin .lt (.bin .sub (.var 4) (.var 9)) (.lit 64)), (.bin .le (.bin .sub (.var 4) (.var 9)) (.lit 70)), (.bin .le (.var 9) (.var 4)), (.un .bnot (.bin .eq (.var 8) (.lit 0))), (.un .bnot (.bin .eq (.var 3) (.lit 0))), (.bin .le (.lit 0) (.var 3)), (.bin .le (.var 3) (.lit 16777215)), (.bin .le (.lit (-149)) (.var 4)), (.bin .le (.var 4) (.lit 104)), (.bin .le (.lit 0) (.var 8)), (.bin .le (.var 8) (.lit 16777215)), (.bin .le (.lit (-149)) (.var 9)), (.bin .le (.var 9) (.lit 104))], (.int .u64 (.bin .add (.ite (.un .bnot (.un .bnot (.var 0))) (.lit 2147483648) (.lit 0)) (.fn 5 (.bin .add (.bin .mul addD3Rz1 (.lit 18446744073709551616)) addD3Rz5) (.bin .sub (.var 4) (.bin .sub (.var 4) (.var 9))) (.lit 0))))),
  ([(.bin .lt (.bin .add (.var 3) (.var 8)) (.var 3)), (.bin .eq (.un .bnot (.un .bnot (.var 0))) (.un .bnot (.un .bnot (.var 5)))), (.bin .eq (.var 8) (.lit 0)), (.un .bnot (.bin .eq (.var 3) (.lit 0))), (.bin .le (.lit 0) (.var 3)), (.bin .le (.var 3) (.lit 16777215)), (.bin .le (.lit (-149)) (.var 4)), (.bin .le (.var 4) (.lit 104)), (.bin .le (.lit 0) (.var 8)), (.bin .le (.var 8) (.lit 16777215)), (.bin .le (.lit (-149)) (.var 9)), (.bin .le (.var 9) (.lit 104))], (.int .u64 (.bin .add (.ite (.un .bnot (.un .bnot (.var 0))) (.lit 2147483648) (.lit 0)) (.fn 5 (.bin .add (.lit 18446744073709551616) (.bin .add (.var 3) (.var 8))) (.var 4) (.lit 0))))),
  ([(.bin .lt (.bin .add (.var 3) (.var 8)) (.bin .add (.var 3) (.var 8))), (.bin .le (.var 3) (.bin .add (.var 3) (.var 8))), (.bin .eq (.un .bnot (.un .bnot (.var 0))) (.un .bnot (.un .bnot (.var 5)))), (.bin .eq (.var 8) (.lit 0)), (.un .bnot (.bin .eq (.var 3) (.lit 0))), (.bin .le (.lit 0) (.var 3)), (.bin .le (.var 3) (.lit 16777215)), (.bin .le (.lit (-149)) (.var 4)), (.bin .le (.var 4) (.lit 104)), (.bin .le (.lit 0) (.var 8)), (.bin .le (.var 8) (.lit 16777215)), (.bin .le (.lit (-149)) (.var 9)), (.bin .le (.var 9) (.lit 104))], (.int .u64 (.bin .add (.ite (.un .bnot (.un .bnot (.var 0))) (.lit 2147483648) (.lit 0)) (.fn 5 (.bin .add (.lit 18446744073709551616) (.bin .add (.var 3) (.var 8))) (.var 4) (.lit 0))))),
  ([(.bin .le (.bin .add (.var 3) (.var 8)) (.bin .add (.var 3) (.var 8))), (.bin .le (.var 3) (.bin .add (.var 3) (.var 8))), (.bin .eq (.un .bnot (.un .bnot (.var 0))) (.un .bnot (.un .bnot (.var 5)))), (.bin .eq (.var 8) (.lit 0)), (.un .bnot (.bin .eq (.var 3) (.lit 0))), (.bin .le (.lit 0) (.var 3)), (.bin .le (.var 3) (.lit 16777215)), (.bin .le (.lit (-149)) (.var 4)), (.bin .le (.var 4) (.lit 104)), (.bin .le (.lit 0) (.var 8)), (.bin .le (.var 8) (.lit 16777215)), (.bin .le (.lit (-149)) (.var 9)), (.bin .le (.var 9) (.lit 104))], (.int .u64 (.bin .add (.ite (.un .bnot (.un .bnot (.var 0))) (.lit 2147483648) (.lit 0)) (.fn 5 (.bin .add (.lit 0) (.bin .add (.var 3) (.var 8))) (.var 4) (.lit 0))))),
  ([(.bin .eq (.bin (.bits .or .u64) (.lit 0) (.bin .sub (.var 3) (.var 8))) (.lit 0)), (.un .bnot (.bin .eq (.un .bnot (.un .bnot (.var 0))) (.un .bnot (.un .bnot (.var 5))))), (.bin .eq (.var 8) (.lit 0)), (.un .bnot (.bin .eq (.var 3) (.lit 0))), (.bin .le (.lit 0) (.var 3)), (.bin .le (.var 3) (.lit 16777215)), (.bin .le (.lit (-149)) (.var 4)), (.bin .le (.var 4) (.lit 104)), (.bin .le (.lit 0) (.var 8)), (.bin .le (.var 8) (.lit 16777215)), (.bin .le (.lit (-149)) (.var 9)), (.bin .le (.var 9) (.lit 104))], (.int .u64 (.ite (.un .bnot (.un .bnot (.lit 0))) (.lit 2147483648) (.lit 0)))),
  ([(.un .bnot (.bin .eq (.bin (.bits .or .u64) (.lit 0) (.bin .sub (.var 3) (.var 8))) (.lit 0))), (.un .bnot (.bin .eq (.un .bnot (.un .bnot (.var 0))) (.un .bnot (.un .bnot (.var 5))))), (.bin .eq (.var 8) (.lit 0)), (.un .bnot (.bin .eq (.var 3) (.lit 0))), (.bin .le (.lit 0) (.var 3)), (.bin .le (.var 3) (.lit 16777215)), (.bin .le (.lit (-149)) (.var 4)), (.bin .le (.var 4) (.lit 104)), (.bin .le (.lit 0) (.var 8)), (.bin .le (.var 8) (.lit 16777215)), (.bin .le (.lit (-149)) (.var 9)), (.bin .le (.var 9) (.lit 104))], (.int .u64 (.bin .add (.ite (.un .bnot (.un .bnot (.var 0))) (.lit 2147483648) (.lit 0)) (.fn 5 (.bin .add (.lit 0) (.bin .sub (.var 3) (.var 8))) (.var 4) (.lit 0)))))]
set_option maxRecDepth 100000 in
theorem addD3Ran : runOfG Try.prog (gOracle (gsD03 ++ [rndD3])) noLoops (bodies fns) [] 4000 addD3 = some addD3R := by kernel_rfl
end Go.Proofs.Ytnodelimomljbaa.RunRefC3

/- The reference's sum of two3 that are finite: what each leaf comes to. No condition. -/
namespace Go.Proofs.Ytnodelimomljbaa.PlainRefC3
open Go Go.Sx Go.Sx.Flt Go.Sx.Ref Go.Proofs.Ytnodelimomljbaa.RunRefC3
set_option linter.unusedSimpArgs false
set_option linter.unusedVariables false
theorem bool_of {u : Nat → Int} {i : Nat} (h : Iv.has (some 0, some 1) (u i)) : u i = 0 ∨ u i = 1 := by
  have a := h.1 _ rfl; have b := h.2 _ rfl; omega
theorem le_of {a b : Int} (h : b2i (decide (a ≤ b)) ≠ 0) : a ≤ b := by
  by_cases g : a ≤ b
  · exact g
  · simp [g, b2i] at h
set_option maxHeartbeats 4000000 in
theorem add_plain (u : Nat → Int) (hk : KindOk u 0 addD3.sp.ks) (hp : pcOk ⟨u, fnG⟩ addD3.sp.pre) : Keeps ⟨u, fnG⟩ addD3.sp.res addD3R := by
  have h0 := bool_of hk.1
  have h5 := bool_of hk.2.2.2.2.2.1
  have p1 := le_of (hp (bi .le (.lit 0) (v 3)) (by simp [addD3, pre23, preM3, preE3]))
  have p2 := le_of (hp (bi .le (v 3) (.lit 16777215)) (by simp [addD3, pre23, preM3, preE3]))
  have p3 := le_of (hp (bi .le (.lit (-149)) (v 4)) (by simp [addD3, pre23, preM3, preE3]))
  have p4 := le_of (hp (bi .le (v 4) (.lit 104)) (by simp [addD3, pre23, preM3, preE3]))
  have p5 := le_of (hp (bi .le (.lit 0) (v 8)) (by simp [addD3, pre23, preM3, preE3]))
  have p6 := le_of (hp (bi .le (v 8) (.lit 16777215)) (by simp [addD3, pre23, preM3, preE3]))
  have p7 := le_of (hp (bi .le (.lit (-149)) (v 9)) (by simp [addD3, pre23, preM3, preE3]))
  have p8 := le_of (hp (bi .le (v 9) (.lit 104)) (by simp [addD3, pre23, preM3, preE3]))
  simp only [v, E.den] at p1 p2 p3 p4 p5 p6 p7 p8
  have d0 : b2i (b2i (u 0 == 0) == 0) = u 0 := by rcases h0 with h | h <;> simp [h, b2i]
  have d5 : b2i (b2i (u 5 == 0) == 0) = u 5 := by rcases h5 with h | h <;> simp [h, b2i]
  have F := fn63 (X := u 3) (ex := u 4) (Y := u 8) (ey := u 9) h0 h5 p1 p5 (by omega) (by omega)
  have ora : ∀ a b : Int, 0 ≤ a → a ≤ 18446744073709551615 → 0 ≤ b → b ≤ 18446744073709551615 → (bitI .or .u64 a b = 0 ↔ a = 0 ∧ b = 0) := fun a b h1 h2 h3 h4 => or_null ⟨h1, h2⟩ ⟨h3, h4⟩
  have ub := up_big3 (X := u 8) (d := u 9 - u 4) ⟨p5, p6⟩
  have um := up_mid3 (X := u 8) (d := u 9 - u 4) ⟨p5, p6⟩
  have vb := up_big3 (X := u 3) (d := u 4 - u 9) ⟨p1, p2⟩
  have vm := up_mid3 (X := u 3) (d := u 4 - u 9) ⟨p1, p2⟩
  obtain ⟨V, hV⟩ : ∃ V, sumC Ieee.single (u 0 == 1) (u 3).toNat (u 4) (u 5 == 1) (u 8).toNat (u 9) = V := ⟨_, rfl⟩
  have r0 : u 3 = 0 → u 8 = 0 → V = if u 0 ≠ 0 then sgn3 (u 5) else 0 := fun a b => hV ▸ sumC_z3 h0 h5 a b
  have rz : u 3 ≠ 0 → u 8 = 0 → Rules3 V (u 0) (u 5) (u 3) 0 (u 4) := fun a b => hV ▸ (sumC_ab3 p1 p5 a (.inl b)) ▸ rules_zero3 h0 h5 p1 b
  have rn : u 3 ≠ 0 → u 8 ≠ 0 → u 9 ≤ u 4 → u 4 - u 9 ≤ 70 → Rules3 V (u 0) (u 5) (u 3 * 2 ^ (u 4 - u 9).toNat) (u 8) (u 4 - (u 4 - u 9)) := fun a b c d => hV ▸ (sumC_ab3 p1 p5 a (.inr c)) ▸ rules_near3 h0 h5 p1 (by omega) (by omega) d
  have rf : u 3 ≠ 0 → u 8 ≠ 0 → u 9 ≤ u 4 → 70 < u 4 - u 9 → Rules3 V (u 0) (u 5) (u 3 * 2 ^ 70) 1 (u 4 - 70) := fun a b c d => hV ▸ (sumC_ab3 p1 p5 a (.inr c)) ▸ rules_far3 h0 h5 p1 (by omega) d
  have sz : u 3 = 0 → u 8 ≠ 0 → Rules3 V (u 5) (u 0) (u 8) 0 (u 9) := fun a b => hV ▸ (sumC_ba3 p1 p5 b (.inl a)) ▸ rules_zero3 h5 h0 p5 a
  have sn : u 3 ≠ 0 → u 8 ≠ 0 → u 4 < u 9 → u 9 - u 4 ≤ 70 → Rules3 V (u 5) (u 0) (u 8 * 2 ^ (u 9 - u 4).toNat) (u 3) (u 9 - (u 9 - u 4)) := fun a b c d => hV ▸ (sumC_ba3 p1 p5 b (.inr c)) ▸ rules_near3 h5 h0 p5 (by omega) (by omega) d
  have sf : u 3 ≠ 0 → u 8 ≠ 0 → u 4 < u 9 → 70 < u 9 - u 4 → Rules3 V (u 5) (u 0) (u 8 * 2 ^ 70) 1 (u 9 - 70) := fun a b c d => hV ▸ (sumC_ba3 p1 p5 b (.inr c)) ▸ rules_far3 h5 h0 p5 (by omega) d
  have sg0 : ∀ x : Int, (if x ≠ 0 then (2147483648 : Int) else 0) = sgn3 x := fun _ => rfl
  have z1 : sgn3 (b2i (b2i ((0 : Int) == 0) == 0)) = 0 := by decide
  have hd1 : u 4 - u 9 = 0 → u 3 * 2 ^ (u 4 - u 9).toNat = u 3 := fun h => by rw [h]; simp
  simp only [addD3R, addD3Rz0, addD3Rz1, addD3Rz2, addD3Rz3, addD3Rz4, addD3Rz5, addD3Rz6, addD3Rz7, addD3, Keeps, chain, unOne, List.length, SameL, addE3, pk, f3, v, bi, E.prop, E.den, Bi.den, Un.den, Nat.beq, d0, d5, F, hV, u64_wr, show IntKind.u64.bits = 64 from rfl, sg0, z1]
  clear F hV hp hk d0 d5
  generalize hA : u 8 * 2 ^ (u 9 - u 4).toNat = A at *
  generalize hB : u 3 * 2 ^ (u 4 - u 9).toNat = B at *
  generalize (u 8 * 2 ^ min (u 9 - u 4 + -64).toNat 64) % 18446744073709551616 = T1 at *
  generalize (u 3 * 2 ^ min (u 4 - u 9 + -64).toNat 64) % 18446744073709551616 = T2 at *
  generalize (u 8).fdiv (2 ^ min (64 - (u 9 - u 4)).toNat 64) = H1 at *
  generalize (u 3).fdiv (2 ^ min (64 - (u 4 - u 9)).toNat 64) = H2 at *
  generalize (u 8 * 2 ^ min (u 9 - u 4).toNat 64) % 18446744073709551616 = L1 at *
  generalize (u 3 * 2 ^ min (u 4 - u 9).toNat 64) % 18446744073709551616 = L2 at *
  refine ⟨?_, ?_, ?_, ?_, ?_, ?_, ?_, ?_, ?_, ?_, ?_, ?_, ?_, ?_, ?_, ?_, ?_, ?_, ?_, ?_, ?_, ?_, ?_, ?_, ?_, ?_, ?_, ?_, ?_, ?_, ?_, ?_, ?_, ?_, ?_, ?_, ?_, ?_, ?_, ?_, ?_, ?_, ?_, ?_, ?_, ?_, ?_, ?_, ?_, ?_, ?_, ?_, ?_, ?_, trivial⟩
  · intro c0 c1 c2 c3 c4 c5 c6 c7 c8 c9 c10
    refine ⟨trivial, ?_, trivial⟩
    rw [r0 c8 c9]
    rw [if_pos c10]
  · intro c0 c1 c2 c3 c4 c5 c6 c7 c8 c9 c10
    refine ⟨trivial, ?_, trivial⟩
    rw [r0 c8 c9]
    rw [if_neg c10]
    rfl
  · intro c0 c1 c2 c3 c4 c5 c6 c7 c8 c9 c10 c11
    refine ⟨trivial, ?_, trivial⟩
    first
    | (exfalso; omega)
    | exact ((sz c8 c9).same c10 _ _ (by omega) (by omega)).symm
  · intro c0 c1 c2 c3 c4 c5 c6 c7 c8 c9 c10 c11 c12
    refine ⟨trivial, ?_, trivial⟩
    first
    | (exfalso; omega)
    | exact ((sz c8 c9).same c10 _ _ (by omega) (by omega)).symm
  · intro c0 c1 c2 c3 c4 c5 c6 c7 c8 c9 c10 c11 c12
    refine ⟨trivial, ?_, trivial⟩
    first
    | (exfalso; omega)
    | exact ((sz c8 c9).same c10 _ _ (by omega) (by omega)).symm
  · intro c0 c1 c2 c3 c4 c5 c6 c7 c8 c9 c10 c11
    refine ⟨trivial, ?_, trivial⟩
    rw [ora _ _ (by omega) (by omega) (by omega) (by omega)] at c11
    first
    | (exfalso; omega)
    | exact ((sz c8 c9).null c10 (by omega)).symm
  · intro c0 c1 c2 c3 c4 c5 c6 c7 c8 c9 c10 c11
    refine ⟨trivial, ?_, trivial⟩
    rw [ora _ _ (by omega) (by omega) (by omega) (by omega)] at c11
    first
    | (exfalso; omega)
    | exact ((sz c8 c9).more c10 (by omega) _ _ (by omega) (by omega)).symm
  · intro c0 c1 c2 c3 c4 c5 c6 c7 c8 c9 c10 c11 c12
    refine ⟨trivial, ?_, trivial⟩
    first
    | (exfalso; omega)
    | exact ((sf c8 c9 c10 c11).same c12 _ _ (by omega) (by omega)).symm
  · intro c0 c1 c2 c3 c4 c5 c6 c7 c8 c9 c10 c11 c12 c13
    refine ⟨trivial, ?_, trivial⟩
    rw [ora _ _ (by omega) (by omega) (by omega) (by omega)] at c13
    first
    | (exfalso; omega)
    | exact ((sf c8 c9 c10 c11).null c12 (by omega)).symm
  · intro c0 c1 c2 c3 c4 c5 c6 c7 c8 c9 c10 c11 c12 c13
    refine ⟨trivial, ?_, trivial⟩
    rw [ora _ _ (by omega) (by omega) (by omega) (by omega)] at c13
    first
    | (exfalso; omega)
    | exact ((sf c8 c9 c10 c11).more c12 (by omega) _ _ (by omega) (by omega)).symm
  · intro c0 c1 c2 c3 c4 c5 c6 c7 c8 c9 c10 c11 c12 c13 c14
    refine ⟨trivial, ?_, trivial⟩
    have e1 := ub c12 c11
    first
    | (exfalso; omega)
    | exact ((sn c8 c9 c10 c11).same c13 _ _ (by omega) (by omega)).symm
  · intro c0 c1 c2 c3 c4 c5 c6 c7 c8 c9 c10 c11 c12 c13 c14
    refine ⟨trivial, ?_, trivial⟩
    have e1 := ub c12 c11
    first
    | (exfalso; omega)
    | exact ((sn c8 c9 c10 c11).same c13 _ _ (by omega) (by omega)).symm
  · intro c0 c1 c2 c3 c4 c5 c6 c7 c8 c9 c10 c11 c12 c13 c14
    refine ⟨trivial, ?_, trivial⟩
    have e1 := ub c12 c11
    first
    | (exfalso; omega)
    | exact ((sn c8 c9 c10 c11).less c13 (by omega) _ _ (by omega) (by omega)).symm
  · intro c0 c1 c2 c3 c4 c5 c6 c7 c8 c9 c10 c11 c12 c13 c14 c15
    refine ⟨trivial, ?_, trivial⟩
    have e1 := ub c12 c11
    rw [ora _ _ (by omega) (by omega) (by omega) (by omega)] at c15
    first
    | (exfalso; omega)
    | exact ((sn c8 c9 c10 c11).null c13 (by omega)).symm
  · intro c0 c1 c2 c3 c4 c5 c6 c7 c8 c9 c10 c11 c12 c13 c14 c15
    refine ⟨trivial, ?_, trivial⟩
    have e1 := ub c12 c11
    rw [ora _ _ (by omega) (by omega) (by omega) (by omega)] at c15
    first
    | (exfalso; omega)
    | exact ((sn c8 c9 c10 c11).more c13 (by omega) _ _ (by omega) (by omega)).symm
  · intro c0 c1 c2 c3 c4 c5 c6 c7 c8 c9 c10 c11 c12 c13 c14
    refine ⟨trivial, ?_, trivial⟩
    have e1 := um (by omega) c12
    first
    | (exfalso; omega)
    | exact ((sn c8 c9 c10 c11).same c13 _ _ (by omega) (by omega)).symm
  · intro c0 c1 c2 c3 c4 c5 c6 c7 c8 c9 c10 c11 c12 c13 c14 c15
    refine ⟨trivial, ?_, trivial⟩
    have e1 := um (by omega) c12
    first
    | (exfalso; omega)
    | exact ((sn c8 c9 c10 c11).same c13 _ _ (by omega) (by omega)).symm
  · intro c0 c1 c2 c3 c4 c5 c6 c7 c8 c9 c10 c11 c12 c13 c14 c15
    refine ⟨trivial, ?_, trivial⟩
    have e1 := um (by omega) c12
    first
    | (exfalso; omega)
    | exact ((sn c8 c9 c10 c11).same c13 _ _ (by omega) (by omega)).symm
  · intro c0 c1 c2 c3 c4 c5 c6 c7 c8 c9 c10 c11 c12 c13 c14 c15
    refine ⟨trivial, ?_, trivial⟩
    have e1 := um (by omega) c12
    first
    | (exfalso; omega)
    | exact ((sn c8 c9 c10 c11).less c13 (by omega) _ _ (by omega) (by omega)).symm
  · intro c0 c1 c2 c3 c4 c5 c6 c7 c8 c9 c10 c11 c12 c13 c14 c15 c16
    refine ⟨trivial, ?_, trivial⟩
    have e1 := um (by omega) c12
    first
    | (exfalso; omega)
    | exact ((sn c8 c9 c10 c11).less c13 (by omega) _ _ (by omega) (by omega)).symm
  · intro c0 c1 c2 c3 c4 c5 c6 c7 c8 c9 c10 c11 c12 c13 c14 c15 c16 c17
    refine ⟨trivial, ?_, trivial⟩
    have e1 := um (by omega) c12
    rw [ora _ _ (by omega) (by omega) (by omega) (by omega)] at c17
    first
    | (exfalso; omega)
    | exact ((sn c8 c9 c10 c11).null c13 (by omega)).symm
  · intro c0 c1 c2 c3 c4 c5 c6 c7 c8 c9 c10 c11 c12 c13 c14 c15 c16 c17
    refine ⟨trivial, ?_, trivial⟩
    have e1 := um (by omega) c12
    rw [ora _ _ (by omega) (by omega) (by omega) (by omega)] at c17
    first
    | (exfalso; omega)
    | exact ((sn c8 c9 c10 c11).more c13 (by omega) _ _ (by omega) (by omega)).symm
  · intro c0 c1 c2 c3 c4 c5 c6 c7 c8 c9 c10 c11 c12 c13 c14 c15
    refine ⟨trivial, ?_, trivial⟩
    have e1 := um (by omega) c12
    first
    | (exfalso; omega)
    | exact ((sn c8 c9 c10 c11).less c13 (by omega) _ _ (by omega) (by omega)).symm
  · intro c0 c1 c2 c3 c4 c5 c6 c7 c8 c9 c10 c11 c12 c13 c14 c15 c16
    refine ⟨trivial, ?_, trivial⟩
    have e1 := um (by omega) c12
    rw [ora _ _ (by omega) (by omega) (by omega) (by omega)] at c16
    first
    | (exfalso; omega)
    | exact ((sn c8 c9 c10 c11).null c13 (by omega)).symm
  · intro c0 c1 c2 c3 c4 c5 c6 c7 c8 c9 c10 c11 c12 c13 c14 c15 c16
    refine ⟨trivial, ?_, trivial⟩
    have e1 := um (by omega) c12
    rw [ora _ _ (by omega) (by omega) (by omega) (by omega)] at c16
    first
    | (exfalso; omega)
    | exact ((sn c8 c9 c10 c11).more c13 (by omega) _ _ (by omega) (by omega)).symm
  · intro c0 c1 c2 c3 c4 c5 c6 c7 c8 c9 c10 c11 c12
    refine ⟨trivial, ?_, trivial⟩
    first
    | (exfalso; omega)
    | exact ((rf c8 c9 c10 c11).same c12 _ _ (by omega) (by omega)).symm
  · intro c0 c1 c2 c3 c4 c5 c6 c7 c8 c9 c10 c11 c12 c13
    refine ⟨trivial, ?_, trivial⟩
    rw [ora _ _ (by omega) (by omega) (by omega) (by omega)] at c13
    first
    | (exfalso; omega)
    | exact ((rf c8 c9 c10 c11).null c12 (by omega)).symm
  · intro c0 c1 c2 c3 c4 c5 c6 c7 c8 c9 c10 c11 c12 c13
    refine ⟨trivial, ?_, trivial⟩
    rw [ora _ _ (by omega) (by omega) (by omega) (by omega)] at c13
    first
    | (exfalso; omega)
    | exact ((rf c8 c9 c10 c11).more c12 (by omega) _ _ (by omega) (by omega)).symm
  · intro c0 c1 c2 c3 c4 c5 c6 c7 c8 c9 c10 c11 c12 c13 c14
    refine ⟨trivial, ?_, trivial⟩
    have e1 := vb c12 c11
    first
    | (exfalso; omega)
    | exact ((rn c8 c9 c10 c11).same c13 _ _ (by omega) (by omega)).symm
  · intro c0 c1 c2 c3 c4 c5 c6 c7 c8 c9 c10 c11 c12 c13 c14
    refine ⟨trivial, ?_, trivial⟩
    have e1 := vb c12 c11
    first
    | (exfalso; omega)
    | exact ((rn c8 c9 c10 c11).same c13 _ _ (by omega) (by omega)).symm
  · intro c0 c1 c2 c3 c4 c5 c6 c7 c8 c9 c10 c11 c12 c13 c14
    refine ⟨trivial, ?_, trivial⟩
    have e1 := vb c12 c11
    first
    | (exfalso; omega)
    | exact ((rn c8 c9 c10 c11).less c13 (by omega) _ _ (by omega) (by omega)).symm
  · intro c0 c1 c2 c3 c4 c5 c6 c7 c8 c9 c10 c11 c12 c13 c14 c15
    refine ⟨trivial, ?_, trivial⟩
    have e1 := vb c12 c11
    rw [ora _ _ (by omega) (by omega) (by omega) (by omega)] at c15
    first
    | (exfalso; omega)
    | exact ((rn c8 c9 c10 c11).null c13 (by omega)).symm
  · intro c0 c1 c2 c3 c4 c5 c6 c7 c8 c9 c10 c11 c12 c13 c14 c15
    refine ⟨trivial, ?_, trivial⟩
    have e1 := vb c12 c11
    rw [ora _ _ (by omega) (by omega) (by omega) (by omega)] at c15
    first
    | (exfalso; omega)
    | exact ((rn c8 c9 c10 c11).more c13 (by omega) _ _ (by omega) (by omega)).symm
  · intro c0 c1 c2 c3 c4 c5 c6 c7 c8 c9 c10 c11 c12 c13 c14 c15
    refine ⟨trivial, ?_, trivial⟩
    have e0 := hd1 c13
    first
    | (exfalso; omega)
    | exact ((rn c8 c9 c10 c11).same c14 _ _ (by omega) (by omega)).symm
  · intro c0 c1 c2 c3 c4 c5 c6 c7 c8 c9 c10 c11 c12 c13 c14 c15 c16
    refine ⟨trivial, ?_, trivial⟩
    have e0 := hd1 c13
    first
    | (exfalso; omega)
    | exact ((rn c8 c9 c10 c11).same c14 _ _ (by omega) (by omega)).symm
  · intro c0 c1 c2 c3 c4 c5 c6 c7 c8 c9 c10 c11 c12 c13 c14 c15 c16
    refine ⟨trivial, ?_, trivial⟩
    have e0 := hd1 c13
    first
    | (exfalso; omega)
    | exact ((rn c8 c9 c10 c11).same c14 _ _ (by omega) (by omega)).symm
  · intro c0 c1 c2 c3 c4 c5 c6 c7 c8 c9 c10 c11 c12 c13 c14 c15
    refine ⟨trivial, ?_, trivial⟩
    have e0 := hd1 c13
    first
    | (exfalso; omega)
    | exact ((rn c8 c9 c10 c11).less c14 (by omega) _ _ (by omega) (by omega)).symm
  · intro c0 c1 c2 c3 c4 c5 c6 c7 c8 c9 c10 c11 c12 c13 c14 c15 c16
    refine ⟨trivial, ?_, trivial⟩
    have e0 := hd1 c13
    rw [ora _ _ (by omega) (by omega) (by omega) (by omega)] at c16
    first
    | (exfalso; omega)
    | exact ((rn c8 c9 c10 c11).null c14 (by omega)).symm
  · intro c0 c1 c2 c3 c4 c5 c6 c7 c8 c9 c10 c11 c12 c13 c14 c15 c16
    refine ⟨trivial, ?_, trivial⟩
    have e0 := hd1 c13
    rw [ora _ _ (by omega) (by omega) (by omega) (by omega)] at c16
    first
    | (exfalso; omega)
    | exact ((rn c8 c9 c10 c11).more c14 (by omega) _ _ (by omega) (by omega)).symm
  · intro c0 c1 c2 c3 c4 c5 c6 c7 c8 c9 c10 c11 c12 c13 c14 c15
    refine ⟨trivial, ?_, trivial⟩
    have e1 := vm (by omega) c12
    first
    | (exfalso; omega)
    | exact ((rn c8 c9 c10 c11).same c14 _ _ (by omega) (by omega)).symm
  · intro c0 c1 c2 c3 c4 c5 c6 c7 c8 c9 c10 c11 c12 c13 c14 c15 c16
    refine ⟨trivial, ?_, trivial⟩
    have e1 := vm (by omega) c12
    first
    | (exfalso; omega)
    | exact ((rn c8 c9 c10 c11).same c14 _ _ (by omega) (by omega)).symm
  · intro c0 c1 c2 c3 c4 c5 c6 c7 c8 c9 c10 c11 c12 c13 c14 c15 c16
    refine ⟨trivial, ?_, trivial⟩
    have e1 := vm (by omega) c12
    first
    | (exfalso; omega)
    | exact ((rn c8 c9 c10 c11).same c14 _ _ (by omega) (by omega)).symm
  · intro c0 c1 c2 c3 c4 c5 c6 c7 c8 c9 c10 c11 c12 c13 c14 c15 c16
    refine ⟨trivial, ?_, trivial⟩
    have e1 := vm (by omega) c12
    first
    | (exfalso; omega)
    | exact ((rn c8 c9 c10 c11).less c14 (by omega) _ _ (by omega) (by omega)).symm
  · intro c0 c1 c2 c3 c4 c5 c6 c7 c8 c9 c10 c11 c12 c13 c14 c15 c16 c17
    refine ⟨trivial, ?_, trivial⟩
    have e1 := vm (by omega) c12
    first
    | (exfalso; omega)
    | exact ((rn c8 c9 c10 c11).less c14 (by omega) _ _ (by omega) (by omega)).symm
  · intro c0 c1 c2 c3 c4 c5 c6 c7 c8 c9 c10 c11 c12 c13 c14 c15 c16 c17 c18
    refine ⟨trivial, ?_, trivial⟩
    have e1 := vm (by omega) c12
    rw [ora _ _ (by omega) (by omega) (by omega) (by omega)] at c18
    first
    | (exfalso; omega)
    | exact ((rn c8 c9 c10 c11).null c14 (by omega)).symm
  · intro c0 c1 c2 c3 c4 c5 c6 c7 c8 c9 c10 c11 c12 c13 c14 c15 c16 c17 c18
    refine ⟨trivial, ?_, trivial⟩
    have e1 := vm (by omega) c12
    rw [ora _ _ (by omega) (by omega) (by omega) (by omega)] at c18
    first
    | (exfalso; omega)
    | exact ((rn c8 c9 c10 c11).more c14 (by omega) _ _ (by omega) (by omega)).symm
  · intro c0 c1 c2 c3 c4 c5 c6 c7 c8 c9 c10 c11 c12 c13 c14 c15 c16
    refine ⟨trivial, ?_, trivial⟩
    have e1 := vm (by omega) c12
    first
    | (exfalso; omega)
    | exact ((rn c8 c9 c10 c11).less c14 (by omega) _ _ (by omega) (by omega)).symm
  · intro c0 c1 c2 c3 c4 c5 c6 c7 c8 c9 c10 c11 c12 c13 c14 c15 c16 c17
    refine ⟨trivial, ?_, trivial⟩
    have e1 := vm (by omega) c12
    rw [ora _ _ (by omega) (by omega) (by omega) (by omega)] at c17
    first
    | (exfalso; omega)
    | exact ((rn c8 c9 c10 c11).null c14 (by omega)).symm
  · intro c0 c1 c2 c3 c4 c5 c6 c7 c8 c9 c10 c11 c12 c13 c14 c15 c16 c17
    refine ⟨trivial, ?_, trivial⟩
    have e1 := vm (by omega) c12
    rw [ora _ _ (by omega) (by omega) (by omega) (by omega)] at c17
    first
    | (exfalso; omega)
    | exact ((rn c8 c9 c10 c11).more c14 (by omega) _ _ (by omega) (by omega)).symm
  · intro c0 c1 c2 c3 c4 c5 c6 c7 c8 c9 c10 c11
    refine ⟨trivial, ?_, trivial⟩
    first
    | (exfalso; omega)
    | exact ((rz c8 c9).same c10 _ _ (by omega) (by omega)).symm
  · intro c0 c1 c2 c3 c4 c5 c6 c7 c8 c9 c10 c11 c12
    refine ⟨trivial, ?_, trivial⟩
    first
    | (exfalso; omega)
    | exact ((rz c8 c9).same c10 _ _ (by omega) (by omega)).symm
  · intro c0 c1 c2 c3 c4 c5 c6 c7 c8 c9 c10 c11 c12
    refine ⟨trivial, ?_, trivial⟩
    first
    | (exfalso; omega)
    | exact ((rz c8 c9).same c10 _ _ (by omega) (by omega)).symm
  · intro c0 c1 c2 c3 c4 c5 c6 c7 c8 c9 c10 c11
    refine ⟨trivial, ?_, trivial⟩
    rw [ora _ _ (by omega) (by omega) (by omega) (by omega)] at c11
    first
    | (exfalso; omega)
    | exact ((rz c8 c9).null c10 (by omega)).symm
  · intro c0 c1 c2 c3 c4 c5 c6 c7 c8 c9 c10 c11
    refine ⟨trivial, ?_, trivial⟩
    rw [ora _ _ (by omega) (by omega) (by omega) (by omega)] at c11
    first
    | (exfalso; omega)
    | exact ((rz c8 c9).more c10 (by omega) _ _ (by omega) (by omega)).symm
theorem add_bd (u : Nat → Int) (hk : KindOk u 0 addD3.sp.ks) (hp : pcOk ⟨u, fnG⟩ addD3.sp.pre) : addD3.sp.bds.ok ⟨u, fnG⟩ := fun p hp => by
  simp only [addD3, addBd3, List.mem_singleton] at hp
  subst hp
  have := fn6_in3 (E.den ⟨u, fnG⟩ (pk (v 3) (v 4))) (E.den ⟨u, fnG⟩ (pk (v 8) (v 9))) (E.den ⟨u, fnG⟩ (bi .add (bi .mul (v 0) (.lit 2)) (v 5)))
  exact ⟨fun _ h => by cases h; exact this.1, fun _ h => by cases h; exact this.2⟩
end Go.Proofs.Ytnodelimomljbaa.PlainRefC3

/- The reference's floats in numbers: division of two3 words, floats taken apart, the order, sums, products. No condition. -/
namespace Go.Proofs.Ytnodelimomljbaa.PlainRefB3
open Go Go.Sx Go.Sx.Flt Go.Sx.Ref Go.Proofs.Ytnodelimomljbaa.RunRefB3 Go.Proofs.Ytnodelimomljbaa.PlainRefA3 Go.Proofs.Ytnodelimomljbaa.PlainRefA Go.Proofs.Ytnodelimomljbaa.PlainRefC3
set_option linter.unusedSimpArgs false
set_option linter.unusedVariables false
theorem u8_w (n : Int) : IntKind.u8.wrap n = n % 256 := by simp [IntKind.wrap, IntKind.bits, IntKind.signed]
theorem or_comm' (a b : Int) : bitI .or .u64 a b = bitI .or .u64 b a := by
  unfold bitI
  simp only [BitVec.or_comm]
set_option maxHeartbeats 1000000 in
theorem apart_plain (u : Nat → Int) (hk : KindOk u 0 apartD3.sp.ks) (hp : pcOk ⟨u, fnG⟩ apartD3.sp.pre) : Keeps ⟨u, fnG⟩ apartD3.sp.res apartD3R := by
  have h0 : 0 ≤ u 0 ∧ u 0 ≤ 4294967295 := ⟨(of_kind hk.1).1, le_of (hp (bi .le (v 0) (.lit 4294967295)) (by simp [apartD3, bi]))⟩
  have eo : bitI .or .u64 (u 0 % 8388608) 8388608 = u 0 % 8388608 + 8388608 := by
    rw [or_comm', or_at 23 (by omega) (by decide) (by omega) (by simp; omega) (by omega)]; omega
  simp only [apartD3, apartD3R, Keeps, chain, unOne, List.length, Nat.beq, SameL, negE3, infE3, nanE3, magE3, plcE3, rE3, M633, B523, I643, v, bi, den_iteP]
  simp only [E.prop, E.den, Bi.den, Un.den, eo, u8_w]
  refine ⟨?_, ?_, ?_, trivial⟩
  · intro p0 a1
    refine ⟨by omega, by omega, by omega, trivial, ?_, trivial, ?_, trivial⟩
    · rw [iteP_neg (by omega), iteP_neg (by omega)]; omega
    · rw [iteP_neg (by omega), iteP_neg (by omega)]
  · intro p0 a1 a2
    refine ⟨by omega, by omega, by omega, trivial, ?_, trivial, ?_, trivial⟩
    · rw [iteP_pos (by omega)]; omega
    · rw [iteP_pos (by omega)]
  · intro p0 a1 a2
    refine ⟨by omega, by omega, by omega, trivial, ?_, trivial, ?_, trivial⟩
    · rw [iteP_neg (by omega), iteP_pos (by omega)]; omega
    · rw [iteP_neg (by omega), iteP_pos (by omega)]; omega
theorem apart_bd (u : Nat → Int) (hk : KindOk u 0 apartD3.sp.ks) (hp : pcOk ⟨u, fnG⟩ apartD3.sp.pre) : apartD3.sp.bds.ok ⟨u, fnG⟩ := fun p hq => by
  have h0 : 0 ≤ u 0 ∧ u 0 ≤ 4294967295 := ⟨(of_kind hk.1).1, le_of (hp (bi .le (v 0) (.lit 4294967295)) (by simp [apartD3, bi]))⟩
  simp only [apartD3, List.mem_cons, List.not_mem_nil, or_false] at hq
  rcases hq with rfl | rfl
  · have : 0 ≤ (magE3 (v 0)).den ⟨u, fnG⟩ ∧ (magE3 (v 0)).den ⟨u, fnG⟩ ≤ 16777215 := by
      simp only [magE3, rE3, M633, B523, I643, v, bi, den_iteP]
      simp only [E.prop, E.den, Bi.den]
      exact iteP_in (fun _ => by omega) fun _ => iteP_in (fun _ => by omega) fun _ => by omega
    exact ⟨fun _ h => by cases h; exact this.1, fun _ h => by cases h; exact this.2⟩
  · have : -149 ≤ (plcE3 (v 0)).den ⟨u, fnG⟩ ∧ (plcE3 (v 0)).den ⟨u, fnG⟩ ≤ 104 := by
      simp only [plcE3, rE3, M633, B523, I643, v, bi, den_iteP]
      simp only [E.prop, E.den, Bi.den]
      exact iteP_in (fun _ => by omega) fun _ => iteP_in (fun _ => by omega) fun _ => by omega
    exact ⟨fun _ h => by cases h; exact this.1, fun _ h => by cases h; exact this.2⟩
set_option maxHeartbeats 1000000 in
theorem less_plain (u : Nat → Int) (hk : KindOk u 0 lessD3.sp.ks) (_ : pcOk ⟨u, fnG⟩ lessD3.sp.pre) : Keeps ⟨u, fnG⟩ lessD3.sp.res lessD3R := by
  have h0 : 0 ≤ u 0 ∧ u 0 ≤ 18446744073709551615 := of_kind hk.1
  have h1 : 0 ≤ u 1 ∧ u 1 ≤ 18446744073709551615 := of_kind hk.2.1
  simp only [magE3, plcE3, rE3, B523, I643, lessD3, lessD3R, Keeps, chain, unOne, List.length, Nat.beq, SameL, keyE3, negE3, M633, v, bi, den_iteP, E.prop, den_leP, den_ltP]
  simp only [E.prop, E.den, Bi.den, Un.den]
  by_cases a : 2147483648 ≤ u 0 <;> by_cases b : 2147483648 ≤ u 1 <;>
    (first | simp only [iteP_pos a] | simp only [iteP_neg a]) <;> (first | simp only [iteP_pos b] | simp only [iteP_neg b]) <;>
    refine ⟨?_, ?_, ?_, ?_, ?_, ?_, ?_, ?_, ?_, ?_, ?_, ?_, ?_, ?_, trivial⟩ <;> intros <;> refine ⟨?_, trivial⟩ <;> first | omega | (exfalso; rename_i h; exact h trivial)
theorem six {u : Nat → Int} {i : Nat} (h : Iv.has (some 0, some 1) (u i)) : u i = 0 ∨ u i = 1 := bool_of h
structure Two (u : Nat → Int) : Prop where
  s0 : u 0 = 0 ∨ u 0 = 1
  s1 : u 1 = 0 ∨ u 1 = 1
  s2 : u 2 = 0 ∨ u 2 = 1
  s5 : u 5 = 0 ∨ u 5 = 1
  s6 : u 6 = 0 ∨ u 6 = 1
  s7 : u 7 = 0 ∨ u 7 = 1
  m1 : 0 ≤ u 3 ∧ u 3 ≤ 16777215
  e1 : -149 ≤ u 4 ∧ u 4 ≤ 104
  m2 : 0 ≤ u 8 ∧ u 8 ≤ 16777215
  e2 : -149 ≤ u 9 ∧ u 9 ≤ 104
theorem two_of {u : Nat → Int} (hk : KindOk u 0 twoK) (hp : pcOk ⟨u, fnG⟩ pre23) : Two u := by
  have p1 := le_of (hp (bi .le (.lit 0) (v 3)) (by simp [pre23, preM3, preE3]))
  have p2 := le_of (hp (bi .le (v 3) (.lit 16777215)) (by simp [pre23, preM3, preE3]))
  have p3 := le_of (hp (bi .le (.lit (-149)) (v 4)) (by simp [pre23, preM3, preE3]))
  have p4 := le_of (hp (bi .le (v 4) (.lit 104)) (by simp [pre23, preM3, preE3]))
  have p5 := le_of (hp (bi .le (.lit 0) (v 8)) (by simp [pre23, preM3, preE3]))
  have p6 := le_of (hp (bi .le (v 8) (.lit 16777215)) (by simp [pre23, preM3, preE3]))
  have p7 := le_of (hp (bi .le (.lit (-149)) (v 9)) (by simp [pre23, preM3, preE3]))
  have p8 := le_of (hp (bi .le (v 9) (.lit 104)) (by simp [pre23, preM3, preE3]))
  exact ⟨bool_of hk.1, bool_of hk.2.1, bool_of hk.2.2.1, bool_of hk.2.2.2.2.2.1, bool_of hk.2.2.2.2.2.2.1, bool_of hk.2.2.2.2.2.2.2.1, ⟨p1, p2⟩, ⟨p3, p4⟩, ⟨p5, p6⟩, ⟨p7, p8⟩⟩
theorem nn01 {x : Int} (h : x = 0 ∨ x = 1) : b2i (b2i (x == 0) == 0) = x := by rcases h with h | h <;> simp [h, b2i]
set_option maxHeartbeats 1000000 in
theorem sum_plain (u : Nat → Int) (hk : KindOk u 0 sumD3.sp.ks) (hp : pcOk ⟨u, fnG⟩ sumD3.sp.pre) : Keeps ⟨u, fnG⟩ sumD3.sp.res sumD3R := by
  obtain ⟨s0, s1, s2, s5, s6, s7, m1, e1, m2, e2⟩ := two_of hk hp
  simp only [sumD3, sumD3R, Keeps, chain, unOne, List.length, Nat.beq, SameL, sumE3, addE3, xorE, no, un, f3, pk, sgI3, nan643', I643, M633, v, bi, den_iteP]
  simp only [E.prop, E.den, Bi.den, Un.den, nn01 s0, nn01 s5]
  generalize fnG 7 _ _ _ = V
  rcases s0 with s0 | s0 <;> rcases s1 with s1 | s1 <;> rcases s2 with s2 | s2 <;> rcases s5 with s5 | s5 <;> rcases s6 with s6 | s6 <;> rcases s7 with s7 | s7 <;> simp [s0, s1, s2, s5, s6, s7, b2i, iteP_true, iteP_false]
theorem sum_in {u : Nat → Int} (hk : KindOk u 0 sumD3.sp.ks) (hp : pcOk ⟨u, fnG⟩ sumD3.sp.pre) : sumD3.sp.bds.ok ⟨u, fnG⟩ := fun p hq => by
  simp only [sumD3, List.mem_singleton] at hq
  subst hq
  have : 0 ≤ sumE3.den ⟨u, fnG⟩ ∧ sumE3.den ⟨u, fnG⟩ ≤ 4294967295 := by
    simp only [sumE3, addE3, f3, sgI3, den_iteP]
    simp only [nan643', I643, E.den]
    exact iteP_in (fun _ => by omega) fun _ => iteP_in (fun _ => iteP_in (fun _ => by omega) fun _ => by omega) fun _ => iteP_in (fun _ => iteP_in (fun _ => by omega) fun _ => by omega) fun _ => fn6_in3 _ _ _
  exact ⟨fun _ h => by cases h; exact this.1, fun _ h => by cases h; exact this.2⟩
set_option maxHeartbeats 1000000 in
theorem mul_plain' (u : Nat → Int) (hk : KindOk u 0 mulD3.sp.ks) (hp : pcOk ⟨u, fnG⟩ mulD3.sp.pre) : Keeps ⟨u, fnG⟩ mulD3.sp.res mulD3R := by
  obtain ⟨s0, s1, s2, s5, s6, s7, m1, e1, m2, e2⟩ := two_of hk hp
  have hm : 0 ≤ u 3 * u 8 := Int.mul_nonneg m1.1 m2.1
  have hm2 : u 3 * u 8 ≤ 16777215 * 16777215 := Int.mul_le_mul m1.2 m2.2 m2.1 (by omega)
  have hw : IntKind.u64.wrap (u 3 * u 8 / 18446744073709551616) * 18446744073709551616 + IntKind.u64.wrap (u 3 * u 8) = u 3 * u 8 := by
    rw [u64_w, u64_w]
    generalize u 3 * u 8 = p at *
    omega
  simp only [mulD3, mulD3R, Keeps, chain, unOne, List.length, Nat.beq, SameL, mulE3, xorE, no, un, zeroE, f2, pk, sg3, sgI3, nan643', I643, M633, v, bi, den_iteP]
  simp only [E.prop, E.den, Bi.den, Un.den, nn01 s0, nn01 s5, hw]
  generalize fnG 5 _ _ _ = V
  rcases s0 with s0 | s0 <;> rcases s1 with s1 | s1 <;> rcases s2 with s2 | s2 <;> rcases s5 with s5 | s5 <;> rcases s6 with s6 | s6 <;> rcases s7 with s7 | s7 <;> simp (config := {contextual := true}) [s0, s1, s2, s5, s6, s7, b2i, iteP_true, iteP_false]
theorem mul_in {u : Nat → Int} (hk : KindOk u 0 mulD3.sp.ks) (hp : pcOk ⟨u, fnG⟩ mulD3.sp.pre) : mulD3.sp.bds.ok ⟨u, fnG⟩ := fun p hq => by
  simp only [mulD3, List.mem_singleton] at hq
  subst hq
  have : 0 ≤ mulE3.den ⟨u, fnG⟩ ∧ mulE3.den ⟨u, fnG⟩ ≤ 4294967295 := by
    simp only [mulE3, sg3, sgI3, bi, den_iteP]
    simp only [nan643', I643, M633, f2, E.den, Bi.den, den_iteP]
    have f := fn4_in3 ((v 3).den ⟨u, fnG⟩ * (v 8).den ⟨u, fnG⟩) ((v 4).den ⟨u, fnG⟩ + (v 9).den ⟨u, fnG⟩)
    refine iteP_in (fun _ => by omega) fun _ => iteP_in (fun _ => iteP_in (fun _ => by omega) fun _ => by omega) fun _ => ?_
    have g : 0 ≤ iteP (E.prop ⟨u, fnG⟩ xorE) 2147483648 0 ∧ iteP (E.prop ⟨u, fnG⟩ xorE) 2147483648 0 ≤ 2147483648 := iteP_in (fun _ => by omega) fun _ => by omega
    omega
  exact ⟨fun _ h => by cases h; exact this.1, fun _ h => by cases h; exact this.2⟩
end Go.Proofs.Ytnodelimomljbaa.PlainRefB3

/- The reference's floats in numbers: quotient, root, whole part. No condition. -/
namespace Go.Proofs.Ytnodelimomljbaa.PlainRefD3
open Go Go.Sx Go.Sx.Flt Go.Sx.Ref Go.Proofs.Ytnodelimomljbaa.RunRefD3 Go.Proofs.Ytnodelimomljbaa.PlainRefA3 Go.Proofs.Ytnodelimomljbaa.PlainRefA Go.Proofs.Ytnodelimomljbaa.PlainRefB3 Go.Proofs.Ytnodelimomljbaa.PlainRefC3
set_option linter.unusedSimpArgs false
set_option linter.unusedVariables false
theorem fn8 {X i Y j : Int} (hX : 0 ≤ X) (hY : 0 ≤ Y) (hi : -149 ≤ i ∧ i ≤ 104) (hj : -149 ≤ j ∧ j ≤ 104) : fnG 9 (X * 4096 + (i + 2048)) (Y * 4096 + (j + 2048)) 0 = (quoC Ieee.single X.toNat i Y.toNat j : Nat) := by
  simp only [fnG]
  rw [(pk_of hX (e := i) (by omega)).1, (pk_of hX (e := i) (by omega)).2, (pk_of hY (e := j) (by omega)).1, (pk_of hY (e := j) (by omega)).2]
theorem fn10 {X i : Int} (hX : 0 ≤ X) (hi : -149 ≤ i ∧ i ≤ 104) : fnG 11 (X * 4096 + (i + 2048)) 0 0 = (rootC Ieee.single X.toNat i : Nat) := by
  simp only [fnG]
  rw [(pk_of hX (e := i) (by omega)).1, (pk_of hX (e := i) (by omega)).2]
set_option maxHeartbeats 1000000 in
theorem quo_plain (u : Nat → Int) (hk : KindOk u 0 quoD3.sp.ks) (hp : pcOk ⟨u, fnG⟩ quoD3.sp.pre) : Keeps ⟨u, fnG⟩ quoD3.sp.res quoD3R := by
  obtain ⟨s0, s1, s2, s5, s6, s7, m1, e1, m2, e2⟩ := two_of hk hp
  simp only [quoD3, quoD3R, quoD3Rz0, quoD3Rz1, quoD3Rz2, quoD3Rz3, Keeps, chain, unOne, List.length, Nat.beq, SameL, quoE3, xorE, no, un, f2, pk, Ref.sg3, sgI3, zeroE, nan643', I643, M633, v, bi, den_iteP, den_addP, E.prop]
  simp only [E.prop, E.den, Bi.den, Un.den, nn01 s0, nn01 s5]
  have core := fun (h3 : u 3 ≠ 0) (h8 : u 8 ≠ 0) => quo_core Ieee.single (u 4) (u 9) ⟨m1.1, by omega⟩ ⟨m2.1, by omega⟩ h3 h8
  unfold shE at core
  refine ⟨?_, ?_, ?_, ?_, ?_, ?_, ?_, ?_, ?_, ?_, ?_, ?_, ?_, trivial⟩
  · intro p1 p2 p3 p4 p5 p6 p7 p8 h2
    exact ⟨trivial, iteP_of_pos (by omega) rfl, trivial⟩
  · intro p1 p2 p3 p4 p5 p6 p7 p8 h2 h7
    exact ⟨trivial, iteP_of_pos (by omega) rfl, trivial⟩
  · intro p1 p2 p3 p4 p5 p6 p7 p8 h2 h7 h1 h6
    exact ⟨trivial, iteP_of_pos (by omega) rfl, trivial⟩
  · intro p1 p2 p3 p4 p5 p6 p7 p8 h2 h7 h1 h6
    exact ⟨trivial, iteP_of_neg (by omega) (iteP_of_pos (by omega) rfl), trivial⟩
  · intro p1 p2 p3 p4 p5 p6 p7 p8 h2 h7 h1 h6 h3 h8
    exact ⟨trivial, iteP_of_pos (by omega) rfl, trivial⟩
  · intro p1 p2 p3 p4 p5 p6 p7 p8 h2 h7 h1 h6 h3 h8
    exact ⟨trivial, iteP_of_neg (by omega) (iteP_of_neg (by omega) (iteP_of_pos (by omega) rfl)), trivial⟩
  · intro p1 p2 p3 p4 p5 p6 p7 p8 h2 h7 h1 h6 h3 h8
    exact ⟨trivial, iteP_of_neg (by omega) (iteP_of_pos (by omega) rfl), trivial⟩
  · intro p1 p2 p3 p4 p5 p6 p7 p8 h2 h7 h1 h6 h3 h8 hr
    obtain ⟨K, R, hK, e12, e13, eq⟩ := core h3 h8
    rw [e13] at hr
    refine ⟨trivial, iteP_of_neg (by omega) (iteP_of_neg (by omega) (iteP_of_neg (by omega) (add_same ?_))), trivial⟩
    rw [e12, (quo_word hK).1, fn4_word3, fn8 m1.1 m2.1 e1 e2, eq, if_neg (by omega)]
  · intro p1 p2 p3 p4 p5 p6 p7 p8 h2 h7 h1 h6 h3 h8 hr
    obtain ⟨K, R, hK, e12, e13, eq⟩ := core h3 h8
    rw [e13] at hr
    refine ⟨trivial, iteP_of_neg (by omega) (iteP_of_neg (by omega) (iteP_of_neg (by omega) (add_same ?_))), trivial⟩
    rw [e12, (quo_word hK).2, fn4_word3, fn8 m1.1 m2.1 e1 e2, eq, if_pos (by omega)]
  · intro p1 p2 p3 p4 p5 p6 p7 p8 h2 h7 h1 h6 h6'
    exact ⟨trivial, iteP_of_neg (by omega) (iteP_of_neg (by omega) (iteP_of_pos (by omega) rfl)), trivial⟩
  · intro p1 p2 p3 p4 p5 p6 p7 p8 h2 h7 h1 h6 h6'
    exfalso; omega
  · intro p1 p2 p3 p4 p5 p6 p7 p8 h2 h7 h1 h6 h6'
    exfalso; omega
  · intro p1 p2 p3 p4 p5 p6 p7 p8 h2 h7 h1 h6 h6'
    exfalso; omega
theorem bd_of {e : E} {u : Nat → Int} (h : 0 ≤ e.den ⟨u, fnG⟩ ∧ e.den ⟨u, fnG⟩ ≤ 4294967295) : Bd.ok ⟨u, fnG⟩ [(e, W643)] := fun p hq => by
  simp only [List.mem_singleton] at hq
  subst hq
  exact ⟨fun _ g => by cases g; exact h.1, fun _ g => by cases g; exact h.2⟩
theorem sum_bd {p : Prop} {N : Int} (hN : 0 ≤ N ∧ N ≤ 2139095040) : 0 ≤ iteP p 2147483648 0 + N ∧ iteP p 2147483648 0 + N ≤ 4294967295 := by
  have h2 : 0 ≤ iteP p 2147483648 0 ∧ iteP p 2147483648 0 ≤ 2147483648 := iteP_in (fun _ => by omega) (fun _ => by omega)
  omega
theorem rung_in (n : Nat) (e : Int) : 0 ≤ ((rungOf Ieee.single n e : Nat) : Int) ∧ ((rungOf Ieee.single n e : Nat) : Int) ≤ 2139095040 := fn4_in3 n e
theorem quo_bd (u : Nat → Int) (hk : KindOk u 0 quoD3.sp.ks) (hp : pcOk ⟨u, fnG⟩ quoD3.sp.pre) : quoD3.sp.bds.ok ⟨u, fnG⟩ := by
  refine bd_of ?_
  simp only [quoE3, f2, pk, Ref.sg3, sgI3, nan643', I643, M633, v, bi, den_iteP, den_addP, E.prop]
  simp only [E.den, Bi.den]
  exact iteP_in (fun _ => by omega) fun _ => iteP_in (fun _ => iteP_in (fun _ => by omega) fun _ => by omega) fun _ => iteP_in (fun _ => iteP_in (fun _ => by omega) fun _ => by omega) fun _ => sum_bd (rung_in _ _)
/-! ### the root -/
set_option maxHeartbeats 1000000 in
theorem root_plain (u : Nat → Int) (hk : KindOk u 0 rootD3.sp.ks) (hp : pcOk ⟨u, fnG⟩ rootD3.sp.pre) : Keeps ⟨u, fnG⟩ rootD3.sp.res rootD3R := by
  have s0 := bool_of hk.1
  have p1 := le_of (hp (bi .le (.lit 0) (v 3)) (by simp [rootD3, preM3, preE3]))
  have p2 := le_of (hp (bi .le (v 3) (.lit 16777215)) (by simp [rootD3, preM3, preE3]))
  have p3 := le_of (hp (bi .le (.lit (-149)) (v 4)) (by simp [rootD3, preM3, preE3]))
  have p4 := le_of (hp (bi .le (v 4) (.lit 104)) (by simp [rootD3, preM3, preE3]))
  have m1 : 0 ≤ u 3 ∧ u 3 ≤ 16777215 := ⟨p1, p2⟩
  have e1 : -149 ≤ u 4 ∧ u 4 ≤ 104 := ⟨p3, p4⟩
  clear p1 p2 p3 p4
  simp only [rootD3, rootD3R, rootD3Rz0, rootD3Rz1, rootD3Rz2, rootD3Rz3, rootD3Rz4, Keeps, chain, unOne, List.length, Nat.beq, SameL, rootE3, no, un, f1, pk, Ref.sg3, zeroE, nan643', I643, M633, v, bi, den_iteP, den_addP, E.prop]
  simp only [E.prop, E.den, Bi.den, Un.den]
  have core := fun (h3 : u 3 ≠ 0) => root_core Ieee.single (u 4) ⟨m1.1, by omega⟩ h3
  unfold shR at core
  have fin : ∀ {c : Int} {r H : Nat}, r < 18446744073709551616 → H < 18446744073709551616 → ∀ {p : Prop}, ¬ p → ∀ W e : Int,
      (W = ((2 * r + 1 : Nat) : Int) → ¬ r * r = H * 18446744073709551616 → iteP p 2147483648 0 + fnG 5 W e 0 = ((rungOf Ieee.single (2 * r + (if r * r = H * 18446744073709551616 then 0 else 1)) e : Nat) : Int)) ∧
      (W = ((2 * r + 0 : Nat) : Int) → r * r = H * 18446744073709551616 → iteP p 2147483648 0 + fnG 5 W e 0 = ((rungOf Ieee.single (2 * r + (if r * r = H * 18446744073709551616 then 0 else 1)) e : Nat) : Int)) := by
    intro c r H hr hH p hp W e
    refine ⟨fun h g => ?_, fun h g => ?_⟩
    · rw [iteP_neg hp, h, if_neg g, fn4_word3, Int.zero_add]
    · rw [iteP_neg hp, h, if_pos g, fn4_word3, Int.zero_add]
  refine ⟨?_, ?_, ?_, ?_, ?_, ?_, ?_, ?_, ?_, ?_, ?_, ?_, trivial⟩
  · intro p1 p2 p3 p4 h2
    exact ⟨trivial, iteP_of_pos (by omega) rfl, trivial⟩
  · intro p1 p2 p3 p4 h2 h0 h1
    exact ⟨trivial, iteP_of_pos (by omega) rfl, trivial⟩
  · intro p1 p2 p3 p4 h2 h0 h1 h3
    exact ⟨trivial, iteP_of_pos (by omega) rfl, trivial⟩
  · intro p1 p2 p3 p4 h2 h0 h1 h3
    exact ⟨trivial, iteP_of_neg (by omega) (iteP_of_neg (by omega) (iteP_of_pos (by omega) (iteP_same (by omega) rfl rfl))), trivial⟩
  · intro p1 p2 p3 p4 h2 h0 h1
    exact ⟨trivial, iteP_of_neg (by omega) (iteP_of_pos (by omega) (iteP_neg (by omega) _ _)), trivial⟩
  · intro p1 p2 p3 p4 h2 h0 h1 h3
    exact ⟨trivial, iteP_of_neg (by omega) (iteP_of_neg (by omega) (iteP_of_pos (by omega) (iteP_same (by omega) rfl rfl))), trivial⟩
  · intro p1 p2 p3 p4 h2 h0 h1 h3 hc hr
    obtain ⟨r, H, hr1, hH, eH, er, eq⟩ := core h3 (-3) (.inl ⟨hc, rfl⟩)
    rw [er, u64_lt hr1, eH] at hr
    refine ⟨trivial, iteP_of_neg (by omega) (iteP_of_neg (by omega) (iteP_of_neg (by omega) ?_)), trivial⟩
    rw [fn10 m1.1 e1, eq, er, u64_lt hr1]
    exact (fin (c := 0) hr1 hH (by omega) _ _).1 (quo_word hr1).1 (fun g => hr ((root_sq hr1 hH).2 g).1)
  · intro p1 p2 p3 p4 h2 h0 h1 h3 hc hr hl
    obtain ⟨r, H, hr1, hH, eH, er, eq⟩ := core h3 (-3) (.inl ⟨hc, rfl⟩)
    rw [er, u64_lt hr1, eH] at hr
    rw [er, u64_lt hr1] at hl
    refine ⟨trivial, iteP_of_neg (by omega) (iteP_of_neg (by omega) (iteP_of_neg (by omega) ?_)), trivial⟩
    rw [fn10 m1.1 e1, eq, er, u64_lt hr1]
    exact (fin (c := 0) hr1 hH (by omega) _ _).1 (quo_word hr1).1 (fun g => hl ((root_sq hr1 hH).2 g).2)
  · intro p1 p2 p3 p4 h2 h0 h1 h3 hc hr hl
    obtain ⟨r, H, hr1, hH, eH, er, eq⟩ := core h3 (-3) (.inl ⟨hc, rfl⟩)
    rw [er, u64_lt hr1, eH] at hr
    rw [er, u64_lt hr1] at hl
    refine ⟨trivial, iteP_of_neg (by omega) (iteP_of_neg (by omega) (iteP_of_neg (by omega) ?_)), trivial⟩
    rw [fn10 m1.1 e1, eq, er, u64_lt hr1]
    exact (fin (c := 0) hr1 hH (by omega) _ _).2 (quo_word hr1).2 ((root_sq hr1 hH).1 ⟨hr, hl⟩)
  · intro p1 p2 p3 p4 h2 h0 h1 h3 hc hr
    obtain ⟨r, H, hr1, hH, eH, er, eq⟩ := core h3 (-2) (.inr ⟨hc, rfl⟩)
    rw [er, u64_lt hr1, eH] at hr
    refine ⟨trivial, iteP_of_neg (by omega) (iteP_of_neg (by omega) (iteP_of_neg (by omega) ?_)), trivial⟩
    rw [fn10 m1.1 e1, eq, er, u64_lt hr1]
    exact (fin (c := 0) hr1 hH (by omega) _ _).1 (quo_word hr1).1 (fun g => hr ((root_sq hr1 hH).2 g).1)
  · intro p1 p2 p3 p4 h2 h0 h1 h3 hc hr hl
    obtain ⟨r, H, hr1, hH, eH, er, eq⟩ := core h3 (-2) (.inr ⟨hc, rfl⟩)
    rw [er, u64_lt hr1, eH] at hr
    rw [er, u64_lt hr1] at hl
    refine ⟨trivial, iteP_of_neg (by omega) (iteP_of_neg (by omega) (iteP_of_neg (by omega) ?_)), trivial⟩
    rw [fn10 m1.1 e1, eq, er, u64_lt hr1]
    exact (fin (c := 0) hr1 hH (by omega) _ _).1 (quo_word hr1).1 (fun g => hl ((root_sq hr1 hH).2 g).2)
  · intro p1 p2 p3 p4 h2 h0 h1 h3 hc hr hl
    obtain ⟨r, H, hr1, hH, eH, er, eq⟩ := core h3 (-2) (.inr ⟨hc, rfl⟩)
    rw [er, u64_lt hr1, eH] at hr
    rw [er, u64_lt hr1] at hl
    refine ⟨trivial, iteP_of_neg (by omega) (iteP_of_neg (by omega) (iteP_of_neg (by omega) ?_)), trivial⟩
    rw [fn10 m1.1 e1, eq, er, u64_lt hr1]
    exact (fin (c := 0) hr1 hH (by omega) _ _).2 (quo_word hr1).2 ((root_sq hr1 hH).1 ⟨hr, hl⟩)
theorem root_bd (u : Nat → Int) (hk : KindOk u 0 rootD3.sp.ks) (hp : pcOk ⟨u, fnG⟩ rootD3.sp.pre) : rootD3.sp.bds.ok ⟨u, fnG⟩ := by
  refine bd_of ?_
  simp only [rootE3, f1, pk, Ref.sg3, nan643', I643, M633, v, bi, den_iteP, den_addP, E.prop]
  simp only [E.den, Bi.den]
  refine iteP_in (fun _ => by omega) fun _ => iteP_in (fun _ => by omega) fun _ => iteP_in (fun _ => iteP_in (fun _ => by omega) fun _ => by omega) fun _ => ?_
  have : 0 ≤ fnG 11 (u 3 * 4096 + (u 4 + 2048)) 0 0 ∧ fnG 11 (u 3 * 4096 + (u 4 + 2048)) 0 0 ≤ 2139095040 := rung_in _ _
  omega
/-! ### the whole part -/
set_option maxHeartbeats 1000000 in
theorem whole_plain (u : Nat → Int) (hk : KindOk u 0 wholeD3.sp.ks) (hp : pcOk ⟨u, fnG⟩ wholeD3.sp.pre) : Keeps ⟨u, fnG⟩ wholeD3.sp.res wholeD3R := by
  have hx : 0 ≤ u 1 ∧ u 1 ≤ 4294967295 := ⟨(of_kind hk.2.1).1, le_of (hp (bi .le (v 1) (.lit 4294967295)) (by simp [wholeD3, bi]))⟩
  simp only [magE3, plcE3, rE3, B523, I643, M633, wholeD3, wholeD3R, wholeD3Rz0, wholeD3Rz1, wholeD3Rz2, wholeD3Rz3, wholeD3Rz4, Keeps, chain, unOne, List.length, Nat.beq, SameL, wholeE3, canW3, un, nan643', v, bi, den_iteP, den_addP, E.prop]
  simp only [E.prop, E.den, Bi.den, Un.den]
  have hnan : ∀ way, 2139095040 < u 1 % 2147483648 → (2143289344 : Int) = iteP (fconvI .f32 .f64 (u 1) = -1) 2143289344 (fwhole32 way (u 1)) := fun way h =>
    iteP_of_pos ((conv_is hx).2 h) rfl
  have hself : ∀ way, u 1 % 2147483648 ≤ 2139095040 → (u 1 % 2147483648 = 2139095040 ∨ u 1 % 2147483648 = 0 ∨ 0 ≤ pO .f32 (u 1)) → u 1 = iteP (fconvI .f32 .f64 (u 1) = -1) 2143289344 (fwhole32 way (u 1)) := fun way h g => by
    exact iteP_of_neg (fun k => by have := (conv_is hx).1 k; omega) (whole_self3 way hx h g).symm
  have hm := fun h => magD3 (x := u 1) hx h
  have hq := fun h => plcD3 (x := u 1) hx h
  have hz := fun h => mO_null3 (x := u 1) hx h
  generalize iteP (u 1 % 2147483648 < 8388608) (u 1 % 2147483648) _ = M at hm ⊢
  generalize iteP (u 1 % 2147483648 < 8388608) (-149) _ = P at hq ⊢
  have code : u 1 % 2147483648 < 2139095040 → P < 0 → u 2 = M → u 3 = P → u 5 = IntKind.u64.wrap (fnG 2 (0 + u 2) (0 - u 3) 0) → u 6 = fnG 3 (0 + u 2) (0 - u 3) 0 →
      ∀ way (N : Int), (∀ D : Nat, u 5 = D → D ≤ 9007199254740992 → N = ((D + (upBit way (decide (2147483648 ≤ u 1)) (mO .f32 (u 1)) (-pO .f32 (u 1)).toNat).toNat : Nat) : Int)) →
        iteP (2147483648 ≤ u 1) 2147483648 0 + fnG 5 (0 + N) 0 0 = iteP (fconvI .f32 .f64 (u 1) = -1) 2143289344 (fwhole32 way (u 1)) := by
    intro hi hP a2 a3 a5 a6 way N hN
    rw [Int.zero_add]
    refine whole_code3 hx hi (by rw [← hq hi]; exact hP) ?_
    rw [a2, a3, hm hi, hq hi, fn2_mO3] at a5
    have hd : mO .f32 (u 1) / 2 ^ (-pO .f32 (u 1)).toNat ≤ 9007199254740992 := Nat.le_trans (Nat.div_le_self _ _) (Nat.le_of_lt (mO_lt _ _))
    rw [u64_lt (by omega)] at a5
    exact hN _ a5 hd
  have h6 : u 1 % 2147483648 < 2139095040 → u 2 = M → u 3 = P → u 6 = fnG 3 (0 + u 2) (0 - u 3) 0 → u 6 = lost (mO .f32 (u 1)) (-pO .f32 (u 1)) := fun hi a2 a3 a6 => by
    rw [a6, a2, a3, hm hi, hq hi, fn3_mO3]
  have hd0 : u 1 % 2147483648 < 2139095040 → P < 0 → 0 < -pO .f32 (u 1) := fun hi h => by rw [← hq hi]; omega
  have h5 : ∀ D : Nat, u 5 = D → D ≤ 9007199254740992 → IntKind.u64.wrap (u 5 + 1) = ((D + 1 : Nat) : Int) := fun D h g => by rw [h, u64_wr]; omega
  have bit : ∀ {b c : Bool} {D : Nat}, b = c → D + b.toNat = D + c.toNat := fun h => by rw [h]
  refine ⟨?_, ?_, ?_, ?_, ?_, ?_, ?_, ?_, ?_, ?_, ?_, ?_, ?_, ?_, ?_, trivial⟩
  · intro p0 p1 p2 a2 a3 h
    exact ⟨trivial, iteP_four (hnan _ h) (hnan _ h) (hnan _ h) (hnan _ h), trivial⟩
  · intro p0 p1 p2 a2 a3 h h1
    exact ⟨trivial, iteP_four (hself _ h (.inl h1)) (hself _ h (.inl h1)) (hself _ h (.inl h1)) (hself _ h (.inl h1)), trivial⟩
  · intro p0 p1 p2 a2 a3 h h1 h2
    have g := (hz (by omega)).1 (by rw [← hm (by omega), ← a2]; exact h2)
    exact ⟨trivial, iteP_four (hself _ h (.inr (.inl g))) (hself _ h (.inr (.inl g))) (hself _ h (.inr (.inl g))) (hself _ h (.inr (.inl g))), trivial⟩
  · intro p0 p1 p2 a2 a3 h h1 h2 h3
    have g : 0 ≤ pO .f32 (u 1) := by rw [← hq (by omega), ← a3]; exact h3
    exact ⟨trivial, iteP_four (hself _ h (.inr (.inr g))) (hself _ h (.inr (.inr g))) (hself _ h (.inr (.inr g))) (hself _ h (.inr (.inr g))), trivial⟩
  · intro p0 p1 p2 a2 a3 h h1 h2 h3 a4 a5 a6 h0 hs hl
    have hi : u 1 % 2147483648 < 2139095040 := by omega
    refine ⟨trivial, iteP_of_pos h0 (code hi (by omega) a2 a3 a5 a6 .up _ fun D hD hD2 => ?_), trivial⟩
    rw [h5 D hD hD2, (up_side _ _ (hd0 hi (by omega))).1, ← h6 hi a2 a3 a6]
    have hs' : ¬ 2147483648 ≤ u 1 := by omega
    simp [hl, hs']
  · intro p0 p1 p2 a2 a3 h h1 h2 h3 a4 a5 a6 h0 hs hl
    have hi : u 1 % 2147483648 < 2139095040 := by omega
    refine ⟨trivial, iteP_of_pos h0 (code hi (by omega) a2 a3 a5 a6 .up _ fun D hD hD2 => ?_), trivial⟩
    rw [hD, (up_side _ _ (hd0 hi (by omega))).1, ← h6 hi a2 a3 a6]
    simp [hl]
  · intro p0 p1 p2 a2 a3 h h1 h2 h3 a4 a5 a6 h0 hs
    have hi : u 1 % 2147483648 < 2139095040 := by omega
    refine ⟨trivial, iteP_of_pos h0 (code hi (by omega) a2 a3 a5 a6 .up _ fun D hD hD2 => ?_), trivial⟩
    rw [hD, (up_side _ _ (hd0 hi (by omega))).1]
    simp [hs]
  · intro p0 p1 p2 a2 a3 h h1 h2 h3 a4 a5 a6 h0 h0' hs hl
    have hi : u 1 % 2147483648 < 2139095040 := by omega
    refine ⟨trivial, iteP_of_neg h0 (iteP_of_pos h0' (code hi (by omega) a2 a3 a5 a6 .down _ fun D hD hD2 => ?_)), trivial⟩
    rw [h5 D hD hD2, (up_side _ _ (hd0 hi (by omega))).2, ← h6 hi a2 a3 a6]
    simp [hl, hs]
  · intro p0 p1 p2 a2 a3 h h1 h2 h3 a4 a5 a6 h0 h0' hs hl
    have hi : u 1 % 2147483648 < 2139095040 := by omega
    refine ⟨trivial, iteP_of_neg h0 (iteP_of_pos h0' (code hi (by omega) a2 a3 a5 a6 .down _ fun D hD hD2 => ?_)), trivial⟩
    rw [hD, (up_side _ _ (hd0 hi (by omega))).2, ← h6 hi a2 a3 a6]
    simp [hl]
  · intro p0 p1 p2 a2 a3 h h1 h2 h3 a4 a5 a6 h0 h0' hs
    have hi : u 1 % 2147483648 < 2139095040 := by omega
    refine ⟨trivial, iteP_of_neg h0 (iteP_of_pos h0' (code hi (by omega) a2 a3 a5 a6 .down _ fun D hD hD2 => ?_)), trivial⟩
    rw [hD, (up_side _ _ (hd0 hi (by omega))).2]
    have hs' : ¬ 2147483648 ≤ u 1 := by omega
    simp [hs']
  · intro p0 p1 p2 a2 a3 h h1 h2 h3 a4 a5 a6 h0 h0' h0'' hl
    have hi : u 1 % 2147483648 < 2139095040 := by omega
    refine ⟨trivial, iteP_of_neg h0 (iteP_of_neg h0' (iteP_of_neg (by omega) (code hi (by omega) a2 a3 a5 a6 .even _ fun D hD hD2 => ?_))), trivial⟩
    rw [h5 D hD hD2, up_even _ _ (hd0 hi (by omega)), ← h6 hi a2 a3 a6, decide_eq_true (.inl hl)]
    rfl
  · intro p0 p1 p2 a2 a3 h h1 h2 h3 a4 a5 a6 h0 h0' h0'' hl hl' ho
    have hi : u 1 % 2147483648 < 2139095040 := by omega
    have a5' := a5
    rw [a2, a3, hm hi, hq hi, fn2_mO3, u64_lt (Nat.lt_of_le_of_lt (Nat.div_le_self _ _) (Nat.lt_trans (mO_lt _ _) (by decide)))] at a5'
    refine ⟨trivial, iteP_of_neg h0 (iteP_of_neg h0' (iteP_of_neg (by omega) (code hi (by omega) a2 a3 a5 a6 .even _ fun D hD hD2 => ?_))), trivial⟩
    rw [h5 D hD hD2, up_even _ _ (hd0 hi (by omega)), ← h6 hi a2 a3 a6, decide_eq_true (.inr ⟨hl', by omega⟩)]
    rfl
  · intro p0 p1 p2 a2 a3 h h1 h2 h3 a4 a5 a6 h0 h0' h0'' hl hl' ho
    have hi : u 1 % 2147483648 < 2139095040 := by omega
    have a5' := a5
    rw [a2, a3, hm hi, hq hi, fn2_mO3, u64_lt (Nat.lt_of_le_of_lt (Nat.div_le_self _ _) (Nat.lt_trans (mO_lt _ _) (by decide)))] at a5'
    refine ⟨trivial, iteP_of_neg h0 (iteP_of_neg h0' (iteP_of_neg (by omega) (code hi (by omega) a2 a3 a5 a6 .even _ fun D hD hD2 => ?_))), trivial⟩
    rw [hD, up_even _ _ (hd0 hi (by omega)), ← h6 hi a2 a3 a6, decide_eq_false (by omega)]
    rfl
  · intro p0 p1 p2 a2 a3 h h1 h2 h3 a4 a5 a6 h0 h0' h0'' hl hl'
    have hi : u 1 % 2147483648 < 2139095040 := by omega
    refine ⟨trivial, iteP_of_neg h0 (iteP_of_neg h0' (iteP_of_neg (by omega) (code hi (by omega) a2 a3 a5 a6 .even _ fun D hD hD2 => ?_))), trivial⟩
    rw [hD, up_even _ _ (hd0 hi (by omega)), ← h6 hi a2 a3 a6, decide_eq_false (by omega)]
    rfl
  · intro p0 p1 p2 a2 a3 h h1 h2 h3 a4 a5 a6 h0 h0' h0''
    have hi : u 1 % 2147483648 < 2139095040 := by omega
    refine ⟨trivial, iteP_of_neg h0 (iteP_of_neg h0' (iteP_of_pos (by omega) (code hi (by omega) a2 a3 a5 a6 .zero _ fun D hD hD2 => ?_))), trivial⟩
    rw [hD]
    rfl
theorem can_bd {V : Int} (h : V = -1 ∨ (0 ≤ V ∧ V ≤ 4294967295)) : 0 ≤ iteP (V = -1) 2143289344 V ∧ iteP (V = -1) 2143289344 V ≤ 4294967295 := iteP_in (fun _ => by omega) (fun _ => by omega)
theorem can_wd {x : Int} (way : Ieee.Toward) (hx : 0 ≤ x ∧ x ≤ 4294967295) : 0 ≤ iteP (fconvI .f32 .f64 x = -1) 2143289344 (fconvI .f64 .f32 (fwholeI way (fconvI .f32 .f64 x))) ∧ iteP (fconvI .f32 .f64 x = -1) 2143289344 (fconvI .f64 .f32 (fwholeI way (fconvI .f32 .f64 x))) ≤ 4294967295 :=
  iteP_in (fun _ => by omega) fun h => whole32_rng (x := x) hx way h
theorem whole_bd (u : Nat → Int) (hk : KindOk u 0 wholeD3.sp.ks) (hp : pcOk ⟨u, fnG⟩ wholeD3.sp.pre) : wholeD3.sp.bds.ok ⟨u, fnG⟩ := by
  have hx : 0 ≤ u 1 ∧ u 1 ≤ 4294967295 := ⟨(of_kind hk.2.1).1, le_of (hp (bi .le (v 1) (.lit 4294967295)) (by simp [wholeD3, bi]))⟩
  refine bd_of ?_
  simp only [wholeE3, canW3, un, nan643', v, bi, den_iteP, E.prop]
  simp only [E.den, Un.den]
  exact iteP_in (fun _ => can_wd _ hx) fun _ => iteP_in (fun _ => can_wd _ hx) fun _ => iteP_in (fun _ => can_wd _ hx) fun _ => can_wd _ hx
end Go.Proofs.Ytnodelimomljbaa.PlainRefD3

/- The reference's comparisons of doubles: six kinds. No condition. -/
namespace Go.Proofs.Ytnodelimomljbaa.PlainRefF3
open Go Go.Sx Go.Sx.Flt Go.Sx.Ref Go.Proofs.Ytnodelimomljbaa.RunRefF3 Go.Proofs.Ytnodelimomljbaa.PlainRefA3 Go.Proofs.Ytnodelimomljbaa.PlainRefA Go.Proofs.Ytnodelimomljbaa.PlainRefB3 Go.Proofs.Ytnodelimomljbaa.PlainRefC3
set_option linter.unusedSimpArgs false
set_option linter.unusedVariables false
set_option maxHeartbeats 1000000 in
theorem plain0 (u : Nat → Int) (hk : KindOk u 0 (compDK3 0).sp.ks) (hp : pcOk ⟨u, fnG⟩ (compDK3 0).sp.pre) : Keeps ⟨u, fnG⟩ (compDK3 0).sp.res compDK30R := by
  have hx : 0 ≤ u 0 ∧ u 0 ≤ 4294967295 := ⟨(of_kind hk.1).1, le_of (hp (bi .le (v 0) (.lit 4294967295)) (by simp [compDK3, bi]))⟩
  have hy : 0 ≤ u 1 ∧ u 1 ≤ 4294967295 := ⟨(of_kind hk.2.1).1, le_of (hp (bi .le (v 1) (.lit 4294967295)) (by simp [compDK3, bi]))⟩
  have F := ford_facts3 hx hy
  simp only [magE3, plcE3, rE3, B523, I643, M633, compDK3, compK3, compDK30R, compDK30Rz0, compDK30Rz1, tr, oU03, no, un, Keeps, chain, unOne, List.length, Nat.beq, SameL, v, bi, den_iteP, E.prop]
  simp only [E.den, Bi.den, Un.den]
  generalize fordI .f32 (u 0) (u 1) = D at F ⊢
  generalize iteP (2147483648 ≤ u 0) (2147483648 - u 0) (u 0) = a at F ⊢
  generalize iteP (2147483648 ≤ u 1) (2147483648 - u 1) (u 1) = b at F ⊢
  repeat' apply And.intro
  all_goals first | trivial | (intros; exact ⟨trivial, iteP_case (fun _ => by omega) (fun _ => by omega), trivial⟩)
set_option maxHeartbeats 1000000 in
theorem plain1 (u : Nat → Int) (hk : KindOk u 0 (compDK3 1).sp.ks) (hp : pcOk ⟨u, fnG⟩ (compDK3 1).sp.pre) : Keeps ⟨u, fnG⟩ (compDK3 1).sp.res compDK31R := by
  have hx : 0 ≤ u 0 ∧ u 0 ≤ 4294967295 := ⟨(of_kind hk.1).1, le_of (hp (bi .le (v 0) (.lit 4294967295)) (by simp [compDK3, bi]))⟩
  have hy : 0 ≤ u 1 ∧ u 1 ≤ 4294967295 := ⟨(of_kind hk.2.1).1, le_of (hp (bi .le (v 1) (.lit 4294967295)) (by simp [compDK3, bi]))⟩
  have F := ford_facts3 hx hy
  simp only [magE3, plcE3, rE3, B523, I643, M633, compDK3, compK3, compDK31R, compDK31Rz0, compDK31Rz1, tr, oU03, no, un, Keeps, chain, unOne, List.length, Nat.beq, SameL, v, bi, den_iteP, E.prop]
  simp only [E.den, Bi.den, Un.den]
  generalize fordI .f32 (u 0) (u 1) = D at F ⊢
  generalize iteP (2147483648 ≤ u 0) (2147483648 - u 0) (u 0) = a at F ⊢
  generalize iteP (2147483648 ≤ u 1) (2147483648 - u 1) (u 1) = b at F ⊢
  repeat' apply And.intro
  all_goals first | trivial | (intros; exact ⟨trivial, iteP_case (fun _ => by omega) (fun _ => by omega), trivial⟩)
set_option maxHeartbeats 1000000 in
theorem plain2 (u : Nat → Int) (hk : KindOk u 0 (compDK3 2).sp.ks) (hp : pcOk ⟨u, fnG⟩ (compDK3 2).sp.pre) : Keeps ⟨u, fnG⟩ (compDK3 2).sp.res compDK32R := by
  have hx : 0 ≤ u 0 ∧ u 0 ≤ 4294967295 := ⟨(of_kind hk.1).1, le_of (hp (bi .le (v 0) (.lit 4294967295)) (by simp [compDK3, bi]))⟩
  have hy : 0 ≤ u 1 ∧ u 1 ≤ 4294967295 := ⟨(of_kind hk.2.1).1, le_of (hp (bi .le (v 1) (.lit 4294967295)) (by simp [compDK3, bi]))⟩
  have F := ford_facts3 hx hy
  simp only [magE3, plcE3, rE3, B523, I643, M633, compDK3, compK3, compDK32R, tr, oU03, no, un, Keeps, chain, unOne, List.length, Nat.beq, SameL, v, bi, den_iteP, E.prop]
  simp only [E.den, Bi.den, Un.den]
  generalize fordI .f32 (u 0) (u 1) = D at F ⊢
  generalize iteP (2147483648 ≤ u 0) (2147483648 - u 0) (u 0) = a at F ⊢
  generalize iteP (2147483648 ≤ u 1) (2147483648 - u 1) (u 1) = b at F ⊢
  repeat' apply And.intro
  all_goals first | trivial | (intros; exact ⟨trivial, iteP_case (fun _ => by omega) (fun _ => by omega), trivial⟩)
set_option maxHeartbeats 1000000 in
theorem plain3 (u : Nat → Int) (hk : KindOk u 0 (compDK3 3).sp.ks) (hp : pcOk ⟨u, fnG⟩ (compDK3 3).sp.pre) : Keeps ⟨u, fnG⟩ (compDK3 3).sp.res compDK33R := by
  have hx : 0 ≤ u 0 ∧ u 0 ≤ 4294967295 := ⟨(of_kind hk.1).1, le_of (hp (bi .le (v 0) (.lit 4294967295)) (by simp [compDK3, bi]))⟩
  have hy : 0 ≤ u 1 ∧ u 1 ≤ 4294967295 := ⟨(of_kind hk.2.1).1, le_of (hp (bi .le (v 1) (.lit 4294967295)) (by simp [compDK3, bi]))⟩
  have F := ford_facts3 hx hy
  simp only [magE3, plcE3, rE3, B523, I643, M633, compDK3, compK3, compDK33R, compDK33Rz0, compDK33Rz1, tr, oU03, no, un, Keeps, chain, unOne, List.length, Nat.beq, SameL, v, bi, den_iteP, E.prop]
  simp only [E.den, Bi.den, Un.den]
  generalize fordI .f32 (u 0) (u 1) = D at F ⊢
  generalize iteP (2147483648 ≤ u 0) (2147483648 - u 0) (u 0) = a at F ⊢
  generalize iteP (2147483648 ≤ u 1) (2147483648 - u 1) (u 1) = b at F ⊢
  repeat' apply And.intro
  all_goals first | trivial | (intros; exact ⟨trivial, iteP_case (fun _ => by omega) (fun _ => by omega), trivial⟩)
set_option maxHeartbeats 1000000 in
theorem plain4 (u : Nat → Int) (hk : KindOk u 0 (compDK3 4).sp.ks) (hp : pcOk ⟨u, fnG⟩ (compDK3 4).sp.pre) : Keeps ⟨u, fnG⟩ (compDK3 4).sp.res compDK34R := by
  have hx : 0 ≤ u 0 ∧ u 0 ≤ 4294967295 := ⟨(of_kind hk.1).1, le_of (hp (bi .le (v 0) (.lit 4294967295)) (by simp [compDK3, bi]))⟩
  have hy : 0 ≤ u 1 ∧ u 1 ≤ 4294967295 := ⟨(of_kind hk.2.1).1, le_of (hp (bi .le (v 1) (.lit 4294967295)) (by simp [compDK3, bi]))⟩
  have F := ford_facts3 hx hy
  simp only [magE3, plcE3, rE3, B523, I643, M633, compDK3, compK3, compDK34R, compDK34Rz0, compDK34Rz1, tr, oU03, no, un, Keeps, chain, unOne, List.length, Nat.beq, SameL, v, bi, den_iteP, E.prop]
  simp only [E.den, Bi.den, Un.den]
  generalize fordI .f32 (u 0) (u 1) = D at F ⊢
  generalize iteP (2147483648 ≤ u 0) (2147483648 - u 0) (u 0) = a at F ⊢
  generalize iteP (2147483648 ≤ u 1) (2147483648 - u 1) (u 1) = b at F ⊢
  repeat' apply And.intro
  all_goals first | trivial | (intros; exact ⟨trivial, iteP_case (fun _ => by omega) (fun _ => by omega), trivial⟩)
set_option maxHeartbeats 1000000 in
theorem plain5 (u : Nat → Int) (hk : KindOk u 0 (compDK3 5).sp.ks) (hp : pcOk ⟨u, fnG⟩ (compDK3 5).sp.pre) : Keeps ⟨u, fnG⟩ (compDK3 5).sp.res compDK35R := by
  have hx : 0 ≤ u 0 ∧ u 0 ≤ 4294967295 := ⟨(of_kind hk.1).1, le_of (hp (bi .le (v 0) (.lit 4294967295)) (by simp [compDK3, bi]))⟩
  have hy : 0 ≤ u 1 ∧ u 1 ≤ 4294967295 := ⟨(of_kind hk.2.1).1, le_of (hp (bi .le (v 1) (.lit 4294967295)) (by simp [compDK3, bi]))⟩
  have F := ford_facts3 hx hy
  simp only [magE3, plcE3, rE3, B523, I643, M633, compDK3, compK3, compDK35R, tr, oU03, no, un, Keeps, chain, unOne, List.length, Nat.beq, SameL, v, bi, den_iteP, E.prop]
  simp only [E.den, Bi.den, Un.den]
  generalize fordI .f32 (u 0) (u 1) = D at F ⊢
  generalize iteP (2147483648 ≤ u 0) (2147483648 - u 0) (u 0) = a at F ⊢
  generalize iteP (2147483648 ≤ u 1) (2147483648 - u 1) (u 1) = b at F ⊢
  repeat' apply And.intro
  all_goals first | trivial | (intros; exact ⟨trivial, iteP_case (fun _ => by omega) (fun _ => by omega), trivial⟩)
end Go.Proofs.Ytnodelimomljbaa.PlainRefF3

/- The ways of the reference's exported operations of single floats, and of the program's root. No condition. -/
namespace Go.Proofs.Ytnodelimomljbaa.RunRefG3
open Go Go.Sx Go.Sx.Flt Go.Sx.Ref

def refUn3R : List Leaf := [
  ([(.bin .lt (.var 0) (.lit 139))], (.tup [(.int .i64 (.lit 0)), (.int .i64 (.lit 400))])),
  ([(.bin .lt (.lit 145) (.var 0)), (.bin .le (.lit 139) (.var 0))], (.tup [(.int .i64 (.lit 0)), (.int .i64 (.lit 400))])),
  ([(.bin .le (.var 0) (.lit 145)), (.bin .le (.lit 139) (.var 0))], (.tup [(.int .i64 (.ite (.bin .eq (.bin .add (.var 0) (.lit (-139))) (.lit 0)) (.bin (.bits .andNot .u64) (.un (.wrap .u32) (.var 1)) (.lit 2147483648)) (.ite (.bin .eq (.bin .add (.var 0) (.lit (-139))) (.lit 1)) (.bin (.bits .xor .u64) (.un (.wrap .u32) (.var 1)) (.lit 2147483648)) (.ite (.bin .eq (.bin .add (.var 0) (.lit (-139))) (.lit 2)) (.ite (.bin .eq (.un (.fconv .f32 .f64) (.un (.wrap .u32) (.var 1))) (.lit (-1))) (.lit 2143289344) (.un (.fconv .f64 .f32) (.un (.fwhole .up) (.un (.fconv .f32 .f64) (.un (.wrap .u32) (.var 1)))))) (.ite (.bin .eq (.bin .add (.var 0) (.lit (-139))) (.lit 3)) (.ite (.bin .eq (.un (.fconv .f32 .f64) (.un (.wrap .u32) (.var 1))) (.lit (-1))) (.lit 2143289344) (.un (.fconv .f64 .f32) (.un (.fwhole .down) (.un (.fconv .f32 .f64) (.un (.wrap .u32) (.var 1)))))) (.ite (.bin .eq (.bin .add (.var 0) (.lit (-139))) (.lit 4)) (.ite (.bin .eq (.un (.fconv .f32 .f64) (.un (.wrap .u32) (.var 1))) (.lit (-1))) (.lit 2143289344) (.un (.fconv .f64 .f32) (.un (.fwhole .zero) (.un (.fconv .f32 .f64) (.un (.wrap .u32) (.var 1)))))) (.ite (.bin .eq (.bin .add (.var 0) (.lit (-139))) (.lit 5)) (.ite (.bin .eq (.un (.fconv .f32 .f64) (.un (.wrap .u32) (.var 1))) (.lit (-1))) (.lit 2143289344) (.un (.fconv .f64 .f32) (.un (.fwhole .even) (.un (.fconv .f32 .f64) (.un (.wrap .u32) (.var 1)))))) (.ite (.bin .eq (.un (.fconv .f32 .f64) (.un (.wrap .u32) (.var 1))) (.lit (-1))) (.lit 2143289344) (.ite (.bin .eq (.un .fsqrt (.un (.fconv .f32 .f64) (.un (.wrap .u32) (.var 1)))) (.lit (-1))) (.lit 2143289344) (.un (.fconv .f64 .f32) (.un .fsqrt (.un (.fconv .f32 .f64) (.un (.wrap .u32) (.var 1)))))))))))))), (.int .i64 (.lit 0))]))]
set_option maxRecDepth 100000 in
theorem refUn3Ran : runOf Try.prog (gOracle (gsD03 ++ [unD3])) noLoops (bodies fns) [] 4000 refUn3S.f refUn3S.ks refUn3S.pre = some refUn3R := by kernel_rfl
def refBin3R : List Leaf := [
  ([(.bin .le (.var 0) (.lit 96)), (.bin .le (.lit 91) (.var 0))], (.tup [(.int .i64 (.ite (.bin .eq (.bin .add (.var 0) (.lit (-91))) (.lit 0)) (.ite (.bin .eq (.bin (.ford .f32) (.un (.wrap .u32) (.var 1)) (.un (.wrap .u32) (.var 2))) (.lit 0)) (.lit 1) (.lit 0)) (.ite (.bin .eq (.bin .add (.var 0) (.lit (-91))) (.lit 1)) (.ite (.un .bnot (.bin .eq (.bin (.ford .f32) (.un (.wrap .u32) (.var 1)) (.un (.wrap .u32) (.var 2))) (.lit 0))) (.lit 1) (.lit 0)) (.ite (.bin .eq (.bin .add (.var 0) (.lit (-91))) (.lit 2)) (.ite (.bin .eq (.bin (.ford .f32) (.un (.wrap .u32) (.var 1)) (.un (.wrap .u32) (.var 2))) (.lit 1)) (.lit 1) (.lit 0)) (.ite (.bin .eq (.bin .add (.var 0) (.lit (-91))) (.lit 3)) (.ite (.bin .eq (.bin (.ford .f32) (.un (.wrap .u32) (.var 1)) (.un (.wrap .u32) (.var 2))) (.lit 2)) (.lit 1) (.lit 0)) (.ite (.bin .eq (.bin .add (.var 0) (.lit (-91))) (.lit 4)) (.ite (.bin .le (.bin (.ford .f32) (.un (.wrap .u32) (.var 1)) (.un (.wrap .u32) (.var 2))) (.lit 1)) (.lit 1) (.lit 0)) (.ite (.bin .or (.bin .eq (.bin (.ford .f32) (.un (.wrap .u32) (.var 1)) (.un (.wrap .u32) (.var 2))) (.lit 2)) (.bin .eq (.bin (.ford .f32) (.un (.wrap .u32) (.var 1)) (.un (.wrap .u32) (.var 2))) (.lit 0))) (.lit 1) (.lit 0)))))))), (.int .i64 (.lit 0))])),
  ([(.bin .le (.var 0) (.lit 152)), (.bin .le (.lit 146) (.var 0)), (.bin .lt (.lit 96) (.var 0)), (.bin .le (.lit 91) (.var 0))], (.tup [(.int .i64 (.ite (.bin .eq (.bin .add (.var 0) (.lit (-146))) (.lit 0)) (.ite (.bin .eq (.bin (.far .add .f32) (.un (.wrap .u32) (.var 1)) (.un (.wrap .u32) (.var 2))) (.lit (-1))) (.lit 2143289344) (.bin (.far .add .f32) (.un (.wrap .u32) (.var 1)) (.un (.wrap .u32) (.var 2)))) (.ite (.bin .eq (.bin .add (.var 0) (.lit (-146))) (.lit 1)) (.ite (.bin .eq (.bin (.far .sub .f32) (.un (.wrap .u32) (.var 1)) (.un (.wrap .u32) (.var 2))) (.lit (-1))) (.lit 2143289344) (.bin (.far .sub .f32) (.un (.wrap .u32) (.var 1)) (.un (.wrap .u32) (.var 2)))) (.ite (.bin .eq (.bin .add (.var 0) (.lit (-146))) (.lit 2)) (.ite (.bin .eq (.bin (.far .mul .f32) (.un (.wrap .u32) (.var 1)) (.un (.wrap .u32) (.var 2))) (.lit (-1))) (.lit 2143289344) (.bin (.far .mul .f32) (.un (.wrap .u32) (.var 1)) (.un (.wrap .u32) (.var 2)))) (.ite (.bin .eq (.bin .add (.var 0) (.lit (-146))) (.lit 3)) (.ite (.bin .eq (.bin (.far .quo .f32) (.un (.wrap .u32) (.var 1)) (.un (.wrap .u32) (.var 2))) (.lit (-1))) (.lit 2143289344) (.bin (.far .quo .f32) (.un (.wrap .u32) (.var 1)) (.un (.wrap .u32) (.var 2)))) (.ite (.bin .eq (.bin .add (.var 0) (.lit (-146))) (.lit 4)) (.ite (.un .bnot (.bin .eq (.bin (.ford .f32) (.un (.wrap .u32) (.var 1)) (.un (.wrap .u32) (.var 1))) (.lit 0))) (.lit 2143289344) (.ite (.un .bnot (.bin .eq (.bin (.ford .f32) (.un (.wrap .u32) (.var 2)) (.un (.wrap .u32) (.var 2))) (.lit 0))) (.lit 2143289344) (.un (.fconv .f64 .f32) (.bin (.fpick true) (.un (.fconv .f32 .f64) (.un (.wrap .u32) (.var 1))) (.un (.fconv .f32 .f64) (.un (.wrap .u32) (.var 2))))))) (.ite (.bin .eq (.bin .add (.var 0) (.lit (-146))) (.lit 5)) (.ite (.un .bnot (.bin .eq (.bin (.ford .f32) (.un (.wrap .u32) (.var 1)) (.un (.wrap .u32) (.var 1))) (.lit 0))) (.lit 2143289344) (.ite (.un .bnot (.bin .eq (.bin (.ford .f32) (.un (.wrap .u32) (.var 2)) (.un (.wrap .u32) (.var 2))) (.lit 0))) (.lit 2143289344) (.un (.fconv .f64 .f32) (.bin (.fpick false) (.un (.fconv .f32 .f64) (.un (.wrap .u32) (.var 1))) (.un (.fconv .f32 .f64) (.un (.wrap .u32) (.var 2))))))) (.bin (.bits .or .u64) (.bin (.bits .andNot .u64) (.un (.wrap .u32) (.var 1)) (.lit 2147483648)) (.bin (.bits .and .u64) (.un (.wrap .u32) (.var 2)) (.lit 2147483648)))))))))), (.int .i64 (.lit 0))])),
  ([(.bin .lt (.lit 152) (.var 0)), (.bin .le (.lit 146) (.var 0)), (.bin .lt (.lit 96) (.var 0)), (.bin .le (.lit 91) (.var 0))], (.tup [(.int .i64 (.lit 0)), (.int .i64 (.lit 400))])),
  ([(.bin .lt (.var 0) (.lit 146)), (.bin .lt (.lit 96) (.var 0)), (.bin .le (.lit 91) (.var 0))], (.tup [(.int .i64 (.lit 0)), (.int .i64 (.lit 400))])),
  ([(.bin .lt (.var 0) (.lit 91))], (.tup [(.int .i64 (.lit 0)), (.int .i64 (.lit 400))]))]
set_option maxRecDepth 100000 in
theorem refBin3Ran : runOf Try.prog (gOracle (gsD03 ++ [compD3, binD3])) noLoops (bodies fns) [] 4000 refBin3S.f refBin3S.ks refBin3S.pre = some refBin3R := by kernel_rfl
def unQR : List Leaf := [
  ([(.un .bnot (.bin .eq (.un (.fconv .f64 .f32) (.un .fsqrt (.un (.fconv .f32 .f64) (.un (.wrap .u32) (.var 1))))) (.lit (-2)))), (.un .bnot (.bin .eq (.un .fsqrt (.un (.fconv .f32 .f64) (.un (.wrap .u32) (.var 1)))) (.lit (-1)))), (.un .bnot (.bin .eq (.un (.fconv .f32 .f64) (.un (.wrap .u32) (.var 1))) (.lit (-1)))), (.bin .eq (.var 0) (.lit 145))], (.tup [(.int .i64 (.un (.fconv .f64 .f32) (.un .fsqrt (.un (.fconv .f32 .f64) (.un (.wrap .u32) (.var 1)))))), (.int .i64 (.lit 0))])),
  ([(.un .bnot (.bin .eq (.bin (.ford .f32) (.var 2) (.var 2)) (.lit 0))), (.bin .eq (.un (.fconv .f64 .f32) (.un .fsqrt (.un (.fconv .f32 .f64) (.un (.wrap .u32) (.var 1))))) (.lit (-2))), (.un .bnot (.bin .eq (.un .fsqrt (.un (.fconv .f32 .f64) (.un (.wrap .u32) (.var 1)))) (.lit (-1)))), (.un .bnot (.bin .eq (.un (.fconv .f32 .f64) (.un (.wrap .u32) (.var 1))) (.lit (-1)))), (.bin .eq (.var 0) (.lit 145))], (.tup [(.int .i64 (.lit 2143289344)), (.int .i64 (.lit 0))])),
  ([(.bin .eq (.bin (.ford .f32) (.var 2) (.var 2)) (.lit 0)), (.bin .eq (.un (.fconv .f64 .f32) (.un .fsqrt (.un (.fconv .f32 .f64) (.un (.wrap .u32) (.var 1))))) (.lit (-2))), (.un .bnot (.bin .eq (.un .fsqrt (.un (.fconv .f32 .f64) (.un (.wrap .u32) (.var 1)))) (.lit (-1)))), (.un .bnot (.bin .eq (.un (.fconv .f32 .f64) (.un (.wrap .u32) (.var 1))) (.lit (-1)))), (.bin .eq (.var 0) (.lit 145))], (.tup [(.int .i64 (.var 2)), (.int .i64 (.lit 0))])),
  ([(.bin .eq (.un .fsqrt (.un (.fconv .f32 .f64) (.un (.wrap .u32) (.var 1)))) (.lit (-1))), (.un .bnot (.bin .eq (.un (.fconv .f32 .f64) (.un (.wrap .u32) (.var 1))) (.lit (-1)))), (.bin .eq (.var 0) (.lit 145))], (.tup [(.int .i64 (.lit 2143289344)), (.int .i64 (.lit 0))])),
  ([(.bin .eq (.un (.fconv .f32 .f64) (.un (.wrap .u32) (.var 1))) (.lit (-1))), (.bin .eq (.var 0) (.lit 145))], (.tup [(.int .i64 (.lit 2143289344)), (.int .i64 (.lit 0))]))]
set_option maxRecDepth 100000 in
theorem unQRan : runOf Try.prog (xOracle xts) noLoops (bodies fns) [] 4000 unQ32.f unQ32.ks unQ32.pre = some unQR := by kernel_rfl
end Go.Proofs.Ytnodelimomljbaa.RunRefG3

/- The ways of the reference's single floats through numbers, and that the code takes no other. No condition. -/
namespace Go.Proofs.Ytnodelimomljbaa.RunRefE3
open Go Go.Sx Go.Sx.Flt Go.Sx.Ref

def extrD3Rz0 : E := (.ite (.bin .le (.lit 2147483648) (.var 2)) (.bin .sub (.lit 2147483648) (.var 2)) (.var 2))
def extrD3Rz1 : E := (.ite (.bin .le (.lit 2147483648) (.var 1)) (.bin .sub (.lit 2147483648) (.var 1)) (.var 1))
def extrD3R : List Leaf := [
  ([(.bin .lt (.lit 2139095040) (.bin .emod (.var 1) (.lit 2147483648))), (.bin .eq (.var 6) (plcE3 (.var 2))), (.bin .eq (.var 5) (magE3 (.var 2))), (.bin .eq (.var 4) (plcE3 (.var 1))), (.bin .eq (.var 3) (magE3 (.var 1))), (.bin .le (.var 1) (.lit 4294967295)), (.bin .le (.var 2) (.lit 4294967295))], (.int .u64 (.lit 2143289344))),
  ([(.bin .lt (.lit 2139095040) (.bin .emod (.var 2) (.lit 2147483648))), (.bin .le (.bin .emod (.var 1) (.lit 2147483648)) (.lit 2139095040)), (.bin .eq (.var 6) (plcE3 (.var 2))), (.bin .eq (.var 5) (magE3 (.var 2))), (.bin .eq (.var 4) (plcE3 (.var 1))), (.bin .eq (.var 3) (magE3 (.var 1))), (.bin .le (.var 1) (.lit 4294967295)), (.bin .le (.var 2) (.lit 4294967295))], (.int .u64 (.lit 2143289344))),
  ([(.bin .lt extrD3Rz1 extrD3Rz0), (.un .bnot (.bin .eq (.bin .lt extrD3Rz1 extrD3Rz0) (.un .bnot (.un .bnot (.var 0))))), (.bin .le (.bin .emod (.var 2) (.lit 2147483648)) (.lit 2139095040)), (.bin .le (.bin .emod (.var 1) (.lit 2147483648)) (.lit 2139095040)), (.bin .eq (.var 6) (plcE3 (.var 2))), (.bin .eq (.var 5) (magE3 (.var 2))), (.bin .eq (.var 4) (plcE3 (.var 1))), (.bin .eq (.var 3) (magE3 (.var 1))), (.bin .le (.var 1) (.lit 4294967295)), (.bin .le (.var 2) (.lit 4294967295))], (.int .u64 (.var 1))),
  ([(.bin .lt extrD3Rz0 extrD3Rz1), (.bin .le extrD3Rz0 extrD3Rz1), (.un .bnot (.bin .eq (.bin .lt extrD3Rz1 extrD3Rz0) (.un .bnot (.un .bnot (.var 0))))), (.bin .le (.bin .emod (.var 2) (.lit 2147483648)) (.lit 2139095040)), (.bin .le (.bin .emod (.var 1) (.lit 2147483648)) (.lit 2139095040)), (.bin .eq (.var 6) (plcE3 (.var 2))), (.bin .eq (.var 5) (magE3 (.var 2))), (.bin .eq (.var 4) (plcE3 (.var 1))), (.bin .eq (.var 3) (magE3 (.var 1))), (.bin .le (.var 1) (.lit 4294967295)), (.bin .le (.var 2) (.lit 4294967295))], (.int .u64 (.var 1))),
  ([(.var 0), (.bin .le extrD3Rz1 extrD3Rz0), (.bin .le extrD3Rz0 extrD3Rz1), (.un .bnot (.bin .eq (.bin .lt extrD3Rz1 extrD3Rz0) (.un .bnot (.un .bnot (.var 0))))), (.bin .le (.bin .emod (.var 2) (.lit 2147483648)) (.lit 2139095040)), (.bin .le (.bin .emod (.var 1) (.lit 2147483648)) (.lit 2139095040)), (.bin .eq (.var 6) (plcE3 (.var 2))), (.bin .eq (.var 5) (magE3 (.var 2))), (.bin .eq (.var 4) (plcE3 (.var 1))), (.bin .eq (.var 3) (magE3 (.var 1))), (.bin .le (.var 1) (.lit 4294967295)), (.bin .le (.var 2) (.lit 4294967295))], (.int .u64 (.bin (.bits .and .u64) (.var 1) (.var 2)))),
  ([(.un .bnot (.var 0)), (.bin .le extrD3Rz1 extrD3Rz0), (.bin .le extrD3Rz0 extrD3Rz1), (.un .bnot (.bin .eq (.bin .lt extrD3Rz1 extrD3Rz0) (.un .bnot (.un .bnot (.var 0))))), (.bin .le (.bin .emod (.var 2) (.lit 2147483648)) (.lit 2139095040)), (.bin .le (.bin .emod (.var 1) (.lit 2147483648)) (.lit 2139095040)), (.bin .eq (.var 6) (plcE3 (.var 2))), (.bin .eq (.var 5) (magE3 (.var 2))), (.bin .eq (.var 4) (plcE3 (.var 1))), (.bin .eq (.var 3) (magE3 (.var 1))), (.bin .le (.var 1) (.lit 4294967295)), (.bin .le (.var 2) (.lit 4294967295))], (.int .u64 (.bin (.bits .or .u64) (.var 1) (.var 2)))),
  ([(.bin .lt extrD3Rz1 extrD3Rz0), (.bin .eq (.bin .lt extrD3Rz1 extrD3Rz0) (.un .bnot (.un .bnot (.var 0)))), (.bin .le (.bin .emod (.var 2) (.lit 2147483648)) (.lit 2139095040)), (.bin .le (.bin .emod (.var 1) (.lit 2147483648)) (.lit 2139095040)), (.bin .eq (.var 6) (plcE3 (.var 2))), (.bin .eq (.var 5) (magE3 (.var 2))), (.bin .eq (.var 4) (plcE3 (.var 1))), (.bin .eq (.var 3) (magE3 (.var 1))), (.bin .le (.var 1) (.lit 4294967295)), (.bin .le (.var 2) (.lit 4294967295))], (.int .u64 (.var 2))),
  ([(.bin .lt extrD3Rz0 extrD3Rz1), (.bin .le extrD3Rz0 extrD3Rz1), (.bin .eq (.bin .lt extrD3Rz1 extrD3Rz0) (.un .bnot (.un .bnot (.var 0)))), (.bin .le (.bin .emod (.var 2) (.lit 2147483648)) (.lit 2139095040)), (.bin .le (.bin .emod (.var 1) (.lit 2147483648)) (.lit 2139095040)), (.bin .eq (.var 6) (plcE3 (.var 2))), (.bin .eq (.var 5) (magE3 (.var 2))), (.bin .eq (.var 4) (plcE3 (.var 1))), (.bin .eq (.var 3) (magE3 (.var 1))), (.bin .le (.var 1) (.lit 4294967295)), (.bin .le (.var 2) (.lit 4294967295))], (.int .u64 (.var 2))),
  ([(.var 0), (.bin .le extrD3Rz1 extrD3Rz0), (.bin .le extrD3Rz0 extrD3Rz1), (.bin .eq (.bin .lt extrD3Rz1 extrD3Rz0) (.un .bnot (.un .bnot (.var 0)))), (.bin .le (.bin .emod (.var 2) (.lit 2147483648)) (.lit 2139095040)), (.bin .le (.bin .emod (.var 1) (.lit 2147483648)) (.lit 2139095040)), (.bin .eq (.var 6) (plcE3 (.var 2))), (.bin .eq (.var 5) (magE3 (.var 2))), (.bin .eq (.var 4) (plcE3 (.var 1))), (.bin .eq (.var 3) (magE3 (.var 1))), (.bin .le (.var 1) (.lit 4294967295)), (.bin .le (.var 2) (.lit 4294967295))], (.int .u64 (.bin (.bits .and .u64) (.var 1) (.var 2)))),
  ([(.un .bnot (.var 0)), (.bin .le extrD3Rz1 extrD3Rz0), (.bin .le extrD3Rz0 extrD3Rz1), (.bin .eq (.bin .lt extrD3Rz1 extrD3Rz0) (.un .bnot (.un .bnot (.var 0)))), (.bin .le (.bin .emod (.var 2) (.lit 2147483648)) (.lit 2139095040)), (.bin .le (.bin .emod (.var 1) (.lit 2147483648)) (.lit 2139095040)), (.bin .eq (.var 6) (plcE3 (.var 2))), (.bin .eq (.var 5) (magE3 (.var 2))), (.bin .eq (.var 4) (plcE3 (.var 1))), (.bin .eq (.var 3) (magE3 (.var 1))), (.bin .le (.var 1) (.lit 4294967295)), (.bin .le (.var 2) (.lit 4294967295))], (.int .u64 (.bin (.bits .or .u64) (.var 1) (.var 2)))),
  ([(.bin .lt (.lit 2139095040) (.bin .emod (.var 1) (.lit 2147483648))), (.bin .eq (.var 6) (plcE3 (.var 2))), (.bin .eq (.var 5) (magE3 (.var 2))), (.bin .eq (.var 4) (plcE3 (.var 1))), (.bin .eq (.var 3) (magE3 (.var 1))), (.bin .le (.var 1) (.lit 4294967295)), (.bin .le (.var 2) (.lit 4294967295))], (.int .u64 (.lit 2143289344))),
  ([(.bin .lt (.lit 2139095040) (.bin .emod (.var 2) (.lit 2147483648))), (.bin .le (.bin .emod (.var 1) (.lit 2147483648)) (.lit 2139095040)), (.bin .eq (.var 6) (plcE3 (.var 2))), (.bin .eq (.var 5) (magE3 (.var 2))), (.bin .eq (.var 4) (plcE3 (.var 1))), (.bin .eq (.var 3) (magE3 (.var 1))), (.bin .le (.var 1) (.lit 4294967295)), (.bin .le (.var 2) (.lit 4294967295))], (.int .u64 (.lit 2143289344))),
  ([(.bin .lt extrD3Rz1 extrD3Rz0), (.un .bnot (.bin .eq (.bin .lt extrD3Rz1 extrD3Rz0) (.un .bnot (.un .bnot (.var 0))))), (.bin .le (.bin .emod (.var 2) (.lit 2147483648)) (.lit 2139095040)), (.bin .le (.bin .emod (.var 1) (.lit 2147483648)) (.lit 2139095040)), (.bin .eq (.var 6) (plcE3 (.var 2))), (.bin .eq (.var 5) (magE3 (.var 2))), (.bin .eq (.var 4) (plcE3 (.var 1))), (.bin .eq (.var 3) (magE3 (.var 1))), (.bin .le (.var 1) (.lit 4294967295)), (.bin .le (.var 2) (.lit 4294967295))], (.int .u64 (.var 1))),
  ([(.bin .lt extrD3Rz0 extrD3Rz1), (.bin .le extrD3Rz0 extrD3Rz1), (.un .bnot (.bin .eq (.bin .lt extrD3Rz1 extrD3Rz0) (.un .bnot (.un .bnot (.var 0))))), (.bin .le (.bin .emod (.var 2) (.lit 2147483648)) (.lit 2139095040)), (.bin .le (.bin .emod (.var 1) (.lit 2147483648)) (.lit 2139095040)), (.bin .eq (.var 6) (plcE3 (.var 2))), (.bin .eq (.var 5) (magE3 (.var 2))), (.bin .eq (.var 4) (plcE3 (.var 1))), (.bin .eq (.var 3) (magE3 (.var 1))), (.bin .le (.var 1) (.lit 4294967295)), (.bin .le (.var 2) (.lit 4294967295))], (.int .u64 (.var 1))),
  ([(.var 0), (.bin .le extrD3Rz1 extrD3Rz0), (.bin .le extrD3Rz0 extrD3Rz1), (.un .bnot (.bin .eq (.bin .lt extrD3Rz1 extrD3Rz0) (.un .bnot (.un .bnot (.var 0))))), (.bin .le (.bin .emod (.var 2) (.lit 2147483648)) (.lit 2139095040)), (.bin .le (.bin .emod (.var 1) (.lit 2147483648)) (.lit 2139095040)), (.bin .eq (.var 6) (plcE3 (.var 2))), (.bin .eq (.var 5) (magE3 (.var 2))), (.bin .eq (.var 4) (plcE3 (.var 1))), (.bin .eq (.var 3) (magE3 (.var 1))), (.bin .le (.var 1) (.lit 4294967295)), (.bin .le (.var 2) (.lit 4294967295))], (.int .u64 (.bin (.bits .and .u64) (.var 1) (.var 2)))),
  ([(.un .bnot (.var 0)), (.bin .le extrD3Rz1 extrD3Rz0), (.bin .le extrD3Rz0 extrD3Rz1), (.un .bnot (.bin .eq (.bin .lt extrD3Rz1 extrD3Rz0) (.un .bnot (.un .bnot (.var 0))))), (.bin .le (.bin .emod (.var 2) (.lit 2147483648)) (.lit 2139095040)), (.bin .le (.bin .emod (.var 1) (.lit 2147483648)) (.lit 2139095040)), (.bin .eq (.var 6) (plcE3 (.var 2))), (.bin .eq (.var 5) (magE3 (.var 2))), (.bin .eq (.var 4) (plcE3 (.var 1))), (.bin .eq (.var 3) (magE3 (.var 1))), (.bin .le (.var 1) (.lit 4294967295)), (.bin .le (.var 2) (.lit 4294967295))], (.int .u64 (.bin (.bits .or .u64) (.var 1) (.var 2)))),
  ([(.bin .lt extrD3Rz1 extrD3Rz0), (.bin .eq (.bin .lt extrD3Rz1 extrD3Rz0) (.un .bnot (.un .bnot (.var 0)))), (.bin .le (.bin .emod (.var 2) (.lit 2147483648)) (.lit 2139095040)), (.bin .le (.bin .emod (.var 1) (.lit 2147483648)) (.lit 2139095040)), (.bin .eq (.var 6) (plcE3 (.var 2))), (.bin .eq (.var 5) (magE3 (.var 2))), (.bin .eq (.var 4) (plcE3 (.var 1))), (.bin .eq (.var 3) (magE3 (.var 1))), (.bin .le (.var 1) (.lit 4294967295)), (.bin .le (.var 2) (.lit 4294967295))], (.int .u64 (.var 2))),
  ([(.bin .lt extrD3Rz0 extrD3Rz1), (.bin .le extrD3Rz0 extrD3Rz1), (.bin .eq (.bin .lt extrD3Rz1 extrD3Rz0) (.un .bnot (.un .bnot (.var 0)))), (.bin .le (.bin .emod (.var 2) (.lit 2147483648)) (.lit 2139095040)), (.bin .le (.bin .emod (.var 1) (.lit 2147483648)) (.lit 2139095040)), (.bin .eq (.var 6) (plcE3 (.var 2))), (.bin .eq (.var 5) (magE3 (.var 2))), (.bin .eq (.var 4) (plcE3 (.var 1))), (.bin .eq (.var 3) (magE3 (.var 1))), (.bin .le (.var 1) (.lit 4294967295)), (.bin .le (.var 2) (.lit 4294967295))], (.int .u64 (.var 2))),
  ([(.var 0), (.bin .le extrD3Rz1 extrD3Rz0), (.bin .le extrD3Rz0 extrD3Rz1), (.bin .eq (.bin .lt extrD3Rz1 extrD3Rz0) (.un .bnot (.un .bnot (.var 0)))), (.bin .le (.bin .emod (.var 2) (.lit 2147483648)) (.lit 2139095040)), (.bin .le (.bin .emod (.var 1) (.lit 2147483648)) (.lit 2139095040)), (.bin .eq (.var 6) (plcE3 (.var 2))), (.bin .eq (.var 5) (magE3 (.var 2))), (.bin .eq (.var 4) (plcE3 (.var 1))), (.bin .eq (.var 3) (magE3 (.var 1))), (.bin .le (.var 1) (.lit 4294967295)), (.bin .le (.var 2) (.lit 4294967295))], (.int .u64 (.bin (.bits .and .u64) (.var 1) (.var 2)))),
  ([(.un .bnot (.var 0)), (.bin .le extrD3Rz1 extrD3Rz0), (.bin .le extrD3Rz0 extrD3Rz1), (.bin .eq (.bin .lt extrD3Rz1 extrD3Rz0) (.un .bnot (.un .bnot (.var 0)))), (.bin .le (.bin .emod (.var 2) (.lit 2147483648)) (.lit 2139095040)), (.bin .le (.bin .emod (.var 1) (.lit 2147483648)) (.lit 2139095040)), (.bin .eq (.var 6) (plcE3 (.var 2))), (.bin .eq (.var 5) (magE3 (.var 2))), (.bin .eq (.var 4) (plcE3 (.var 1))), (.bin .eq (.var 3) (magE3 (.var 1))), (.bin .le (.var 1) (.lit 4294967295)), (.bin .le (.var 2) (.lit 4294967295))], (.int .u64 (.bin (.bits .or .u64) (.var 1) (.var 2))))]
set_option maxRecDepth 100000 in
theorem extrD3Ran : runOfG Try.prog (orcs (nameO (gOracle [apartD3])) (gOracle (gsD03 ++ [lessD3]))) noLoops (bodies fns) [] 4000 extrD3 = some extrD3R := by kernel_rfl
def unD3R : List Leaf := [
  ([(.bin .eq (.var 0) (.lit 0)), (.bin .le (.lit 0) (.var 0)), (.bin .le (.var 0) (.lit 6)), (.bin .le (.var 1) (.lit 4294967295))], (.int .u64 (.bin (.bits .andNot .u64) (.var 1) (.ite (.un .bnot (.un .bnot (.lit 1))) (.lit 2147483648) (.lit 0))))),
  ([(.bin .eq (.var 0) (.lit 1)), (.un .bnot (.bin .eq (.var 0) (.lit 0))), (.bin .le (.lit 0) (.var 0)), (.bin .le (.var 0) (.lit 6)), (.bin .le (.var 1) (.lit 4294967295))], (.int .u64 (.bin (.bits .xor .u64) (.var 1) (.ite (.un .bnot (.un .bnot (.lit 1))) (.lit 2147483648) (.lit 0))))),
  ([(.bin .eq (.var 3) (plcE3 (.var 1))), (.bin .eq (.var 2) (magE3 (.var 1))), (.bin .eq (.var 0) (.lit 6)), (.un .bnot (.bin .eq (.var 0) (.lit 1))), (.un .bnot (.bin .eq (.var 0) (.lit 0))), (.bin .le (.lit 0) (.var 0)), (.bin .le (.var 0) (.lit 6)), (.bin .le (.var 1) (.lit 4294967295))], (.int .u64 (.ite (.bin .or (.bin .lt (.lit 2139095040) (.bin .emod (.var 1) (.lit 2147483648))) (.bin .and (.bin .le (.lit 2147483648) (.var 1)) (.bin .or (.bin .eq (.bin .emod (.var 1) (.lit 2147483648)) (.lit 2139095040)) (.un .bnot (.bin .eq (.var 2) (.lit 0)))))) (.lit 2143289344) (.ite (.bin .eq (.bin .emod (.var 1) (.lit 2147483648)) (.lit 2139095040)) (.lit 2139095040) (.ite (.bin .eq (.var 2) (.lit 0)) (.ite (.bin .le (.lit 2147483648) (.var 1)) (.lit 2147483648) (.lit 0)) (.fn 11 (.bin .add (.bin .mul (.var 2) (.lit 4096)) (.bin .add (.var 3) (.lit 2048))) (.lit 0) (.lit 0))))))),
  ([(.un .bnot (.bin .eq (.var 0) (.lit 6))), (.un .bnot (.bin .eq (.var 0) (.lit 1))), (.un .bnot (.bin .eq (.var 0) (.lit 0))), (.bin .le (.lit 0) (.var 0)), (.bin .le (.var 0) (.lit 6)), (.bin .le (.var 1) (.lit 4294967295))], (.int .u64 (.ite (.bin .eq (.bin .add (.var 0) (.lit (-2))) (.lit 0)) (.ite (.bin .eq (.un (.fconv .f32 .f64) (.var 1)) (.lit (-1))) (.lit 2143289344) (.un (.fconv .f64 .f32) (.un (.fwhole .up) (.un (.fconv .f32 .f64) (.var 1))))) (.ite (.bin .eq (.bin .add (.var 0) (.lit (-2))) (.lit 1)) (.ite (.bin .eq (.un (.fconv .f32 .f64) (.var 1)) (.lit (-1))) (.lit 2143289344) (.un (.fconv .f64 .f32) (.un (.fwhole .down) (.un (.fconv .f32 .f64) (.var 1))))) (.ite (.bin .eq (.bin .add (.var 0) (.lit (-2))) (.lit 2)) (.ite (.bin .eq (.un (.fconv .f32 .f64) (.var 1)) (.lit (-1))) (.lit 2143289344) (.un (.fconv .f64 .f32) (.un (.fwhole .zero) (.un (.fconv .f32 .f64) (.var 1))))) (.ite (.bin .eq (.un (.fconv .f32 .f64) (.var 1)) (.lit (-1))) (.lit 2143289344) (.un (.fconv .f64 .f32) (.un (.fwhole .even) (.un (.fconv .f32 .f64) (.var 1))))))))))]
set_option maxRecDepth 100000 in
theorem unD3Ran : runOfG Try.prog (orcs (nameO (gOracle [apartD3])) (gOracle (gsD03 ++ [rootD3, wholeD3]))) noLoops (bodies fns) [] 4000 unD3 = some unD3R := by kernel_rfl
def binD3Rz0 : E := (.ite (.bin .eq (.var 0) (.lit 5)) (.ite (.un .bnot (.bin .eq (.bin (.ford .f32) (.var 1) (.var 1)) (.lit 0))) (.lit 2143289344) (.ite (.un .bnot (.bin .eq (.bin (.ford .f32) (.var 2) (.var 2)) (.lit 0))) (.lit 2143289344) (.un (.fconv .f64 .f32) (.bin (.fpick false) (.un (.fconv .f32 .f64) (.var 1)) (.un (.fconv .f32 .f64) (.var 2)))))) (.ite (.un .bnot (.bin .eq (.bin (.ford .f32) (.var 1) (.var 1)) (.lit 0))) (.lit 2143289344) (.ite (.un .bnot (.bin .eq (.bin (.ford .f32) (.var 2) (.var 2)) (.lit 0))) (.lit 2143289344) (.un (.fconv .f64 .f32) (.bin (.fpick true) (.un (.fconv .f32 .f64) (.var 1)) (.un (.fconv .f32 .f64) (.var 2)))))))
def binD3Rz1 : E := (.un .bnot (.bin .eq (.bin .le (.lit 2147483648) (.var 1)) (.bin .le (.lit 2147483648) (.var 2))))
def binD3Rz2 : E := (.bin .or (.bin .lt (.lit 2139095040) (.bin .emod (.var 1) (.lit 2147483648))) (.bin .lt (.lit 2139095040) (.bin .emod (.var 2) (.lit 2147483648))))
def binD3Rz3 : E := (.bin .and (.bin .eq (.bin .emod (.var 1) (.lit 2147483648)) (.lit 2139095040)) (.bin .eq (.bin .emod (.var 2) (.lit 2147483648)) (.lit 2139095040)))
def binD3R : List Leaf := [
  ([(.bin .eq (.var 0) (.lit 0)), (.bin .eq (.var 6) (plcE3 (.var 2))), (.bin .eq (.var 5) (magE3 (.var 2))), (.bin .eq (.var 4) (plcE3 (.var 1))), (.bin .eq (.var 3) (magE3 (.var 1))), (.bin .le (.lit 0) (.var 0)), (.bin .le (.var 0) (.lit 6)), (.bin .le (.var 1) (.lit 4294967295)), (.bin .le (.var 2) (.lit 4294967295))], (.int .u64 (.ite (.bin .or binD3Rz2 (.bin .and binD3Rz3 binD3Rz1)) (.lit 2143289344) (.ite (.bin .eq (.bin .emod (.var 1) (.lit 2147483648)) (.lit 2139095040)) (.ite (.bin .le (.lit 2147483648) (.var 1)) (.lit 4286578688) (.lit 2139095040)) (.ite (.bin .eq (.bin .emod (.var 2) (.lit 2147483648)) (.lit 2139095040)) (.ite (.bin .le (.lit 2147483648) (.var 2)) (.lit 4286578688) (.lit 2139095040)) (.fn 7 (.bin .add (.bin .mul (.var 3) (.lit 4096)) (.bin .add (.var 4) (.lit 2048))) (.bin .add (.bin .mul (.var 5) (.lit 4096)) (.bin .add (.var 6) (.lit 2048))) (.bin .add (.bin .mul (.bin .le (.lit 2147483648) (.var 1)) (.lit 2)) (.bin .le (.lit 2147483648) (.var 2))))))))),
  ([(.bin .eq (.var 0) (.lit 1)), (.un .bnot (.bin .eq (.var 0) (.lit 0))), (.bin .eq (.var 6) (plcE3 (.var 2))), (.bin .eq (.var 5) (magE3 (.var 2))), (.bin .eq (.var 4) (plcE3 (.var 1))), (.bin .eq (.var 3) (magE3 (.var 1))), (.bin .le (.lit 0) (.var 0)), (.bin .le (.var 0) (.lit 6)), (.bin .le (.var 1) (.lit 4294967295)), (.bin .le (.var 2) (.lit 4294967295))], (.int .u64 (.ite (.bin .or binD3Rz2 (.bin .and binD3Rz3 (.un .bnot (.bin .eq (.bin .le (.lit 2147483648) (.var 1)) (.bin .lt (.var 2) (.lit 2147483648)))))) (.lit 2143289344) (.ite (.bin .eq (.bin .emod (.var 1) (.lit 2147483648)) (.lit 2139095040)) (.ite (.bin .le (.lit 2147483648) (.var 1)) (.lit 4286578688) (.lit 2139095040)) (.ite (.bin .eq (.bin .emod (.var 2) (.lit 2147483648)) (.lit 2139095040)) (.ite (.bin .lt (.var 2) (.lit 2147483648)) (.lit 4286578688) (.lit 2139095040)) (.fn 7 (.bin .add (.bin .mul (.var 3) (.lit 4096)) (.bin .add (.var 4) (.lit 2048))) (.bin .add (.bin .mul (.var 5) (.lit 4096)) (.bin .add (.var 6) (.lit 2048))) (.bin .add (.bin .mul (.bin .le (.lit 2147483648) (.var 1)) (.lit 2)) (.bin .lt (.var 2) (.lit 2147483648))))))))),
  ([(.bin .eq (.var 0) (.lit 2)), (.un .bnot (.bin .eq (.var 0) (.lit 1))), (.un .bnot (.bin .eq (.var 0) (.lit 0))), (.bin .eq (.var 6) (plcE3 (.var 2))), (.bin .eq (.var 5) (magE3 (.var 2))), (.bin .eq (.var 4) (plcE3 (.var 1))), (.bin .eq (.var 3) (magE3 (.var 1))), (.bin .le (.lit 0) (.var 0)), (.bin .le (.var 0) (.lit 6)), (.bin .le (.var 1) (.lit 4294967295)), (.bin .le (.var 2) (.lit 4294967295))], (.int .u64 (.ite (.bin .or binD3Rz2 (.bin .or (.bin .and (.bin .eq (.bin .emod (.var 1) (.lit 2147483648)) (.lit 2139095040)) (.bin .and (.un .bnot (.bin .eq (.bin .emod (.var 2) (.lit 2147483648)) (.lit 2139095040))) (.bin .eq (.var 5) (.lit 0)))) (.bin .and (.bin .eq (.bin .emod (.var 2) (.lit 2147483648)) (.lit 2139095040)) (.bin .and (.un .bnot (.bin .eq (.bin .emod (.var 1) (.lit 2147483648)) (.lit 2139095040))) (.bin .eq (.var 3) (.lit 0)))))) (.lit 2143289344) (.ite (.bin .or (.bin .eq (.bin .emod (.var 1) (.lit 2147483648)) (.lit 2139095040)) (.bin .eq (.bin .emod (.var 2) (.lit 2147483648)) (.lit 2139095040))) (.ite binD3Rz1 (.lit 4286578688) (.lit 2139095040)) (.bin .add (.ite binD3Rz1 (.lit 2147483648) (.lit 0)) (.fn 5 (.bin .mul (.var 3) (.var 5)) (.bin .add (.var 4) (.var 6)) (.lit 0))))))),
  ([(.bin .eq (.var 0) (.lit 3)), (.un .bnot (.bin .eq (.var 0) (.lit 2))), (.un .bnot (.bin .eq (.var 0) (.lit 1))), (.un .bnot (.bin .eq (.var 0) (.lit 0))), (.bin .eq (.var 6) (plcE3 (.var 2))), (.bin .eq (.var 5) (magE3 (.var 2))), (.bin .eq (.var 4) (plcE3 (.var 1))), (.bin .eq (.var 3) (magE3 (.var 1))), (.bin .le (.lit 0) (.var 0)), (.bin .le (.var 0) (.lit 6)), (.bin .le (.var 1) (.lit 4294967295)), (.bin .le (.var 2) (.lit 4294967295))], (.int .u64 (.ite (.bin .or binD3Rz2 (.bin .or binD3Rz3 (.bin .and (.bin .and (.un .bnot (.bin .eq (.bin .emod (.var 1) (.lit 2147483648)) (.lit 2139095040))) (.un .bnot (.bin .eq (.bin .emod (.var 2) (.lit 2147483648)) (.lit 2139095040)))) (.bin .and (.bin .eq (.var 3) (.lit 0)) (.bin .eq (.var 5) (.lit 0)))))) (.lit 2143289344) (.ite (.bin .or (.bin .eq (.bin .emod (.var 1) (.lit 2147483648)) (.lit 2139095040)) (.bin .and (.un .bnot (.bin .eq (.bin .emod (.var 2) (.lit 2147483648)) (.lit 2139095040))) (.bin .eq (.var 5) (.lit 0)))) (.ite binD3Rz1 (.lit 4286578688) (.lit 2139095040)) (.ite (.bin .or (.bin .eq (.bin .emod (.var 2) (.lit 2147483648)) (.lit 2139095040)) (.bin .eq (.var 3) (.lit 0))) (.ite binD3Rz1 (.lit 2147483648) (.lit 0)) (.bin .add (.ite binD3Rz1 (.lit 2147483648) (.lit 0)) (.fn 9 (.bin .add (.bin .mul (.var 3) (.lit 4096)) (.bin .add (.var 4) (.lit 2048))) (.bin .add (.bin .mul (.var 5) (.lit 4096)) (.bin .add (.var 6) (.lit 2048))) (.lit 0)))))))),
  ([(.bin .eq (.var 0) (.lit 4)), (.un .bnot (.bin .eq (.var 0) (.lit 3))), (.un .bnot (.bin .eq (.var 0) (.lit 2))), (.un .bnot (.bin .eq (.var 0) (.lit 1))), (.un .bnot (.bin .eq (.var 0) (.lit 0))), (.bin .eq (.var 6) (plcE3 (.var 2))), (.bin .eq (.var 5) (magE3 (.var 2))), (.bin .eq (.var 4) (plcE3 (.var 1))), (.bin .eq (.var 3) (magE3 (.var 1))), (.bin .le (.lit 0) (.var 0)), (.bin .le (.var 0) (.lit 6)), (.bin .le (.var 1) (.lit 4294967295)), (.bin .le (.var 2) (.lit 4294967295))], (.int .u64 binD3Rz0)),
  ([(.bin .eq (.var 0) (.lit 5)), (.un .bnot (.bin .eq (.var 0) (.lit 4))), (.un .bnot (.bin .eq (.var 0) (.lit 3))), (.un .bnot (.bin .eq (.var 0) (.lit 2))), (.un .bnot (.bin .eq (.var 0) (.lit 1))), (.un .bnot (.bin .eq (.var 0) (.lit 0))), (.bin .eq (.var 6) (plcE3 (.var 2))), (.bin .eq (.var 5) (magE3 (.var 2))), (.bin .eq (.var 4) (plcE3 (.var 1))), (.bin .eq (.var 3) (magE3 (.var 1))), (.bin .le (.lit 0) (.var 0)), (.bin .le (.var 0) (.lit 6)), (.bin .le (.var 1) (.lit 4294967295)), (.bin .le (.var 2) (.lit 4294967295))], (.int .u64 binD3Rz0)),
  ([(.un .bnot (.bin .eq (.var 0) (.lit 5))), (.un .bnot (.bin .eq (.var 0) (.lit 4))), (.un .bnot (.bin .eq (.var 0) (.lit 3))), (.un .bnot (.bin .eq (.var 0) (.lit 2))), (.un .bnot (.bin .eq (.var 0) (.lit 1))), (.un .bnot (.bin .eq (.var 0) (.lit 0))), (.bin .eq (.var 6) (plcE3 (.var 2))), (.bin .eq (.var 5) (magE3 (.var 2))), (.bin .eq (.var 4) (plcE3 (.var 1))), (.bin .eq (.var 3) (magE3 (.var 1))), (.bin .le (.lit 0) (.var 0)), (.bin .le (.var 0) (.lit 6)), (.bin .le (.var 1) (.lit 4294967295)), (.bin .le (.var 2) (.lit 4294967295))], (.int .u64 (.bin (.bits .or .u64) (.bin (.bits .andNot .u64) (.var 1) (.ite (.un .bnot (.un .bnot (.lit 1))) (.lit 2147483648) (.lit 0))) (.bin (.bits .and .u64) (.var 2) (.ite (.un .bnot (.un .bnot (.lit 1))) (.lit 2147483648) (.lit 0)))))),
  ([(.bin .eq (.var 0) (.lit 0)), (.bin .eq (.var 6) (plcE3 (.var 2))), (.bin .eq (.var 5) (magE3 (.var 2))), (.bin .eq (.var 4) (plcE3 (.var 1))), (.bin .eq (.var 3) (magE3 (.var 1))), (.bin .le (.lit 0) (.var 0)), (.bin .le (.var 0) (.lit 6)), (.bin .le (.var 1) (.lit 4294967295)), (.bin .le (.var 2) (.lit 4294967295))], (.int .u64 (.ite (.bin .or binD3Rz2 (.bin .and binD3Rz3 binD3Rz1)) (.lit 2143289344) (.ite (.bin .eq (.bin .emod (.var 1) (.lit 2147483648)) (.lit 2139095040)) (.ite (.bin .le (.lit 2147483648) (.var 1)) (.lit 4286578688) (.lit 2139095040)) (.ite (.bin .eq (.bin .emod (.var 2) (.lit 2147483648)) (.lit 2139095040)) (.ite (.bin .le (.lit 2147483648) (.var 2)) (.lit 4286578688) (.lit 2139095040)) (.fn 7 (.bin .add (.bin .mul (.var 3) (.lit 4096)) (.bin .add (.var 4) (.lit 2048))) (.bin .add (.bin .mul (.var 5) (.lit 4096)) (.bin .add (.var 6) (.lit 2048))) (.bin .add (.bin .mul (.bin .le (.lit 2147483648) (.var 1)) (.lit 2)) (.bin .le (.lit 2147483648) (.var 2))))))))),
  ([(.bin .eq (.var 0) (.lit 1)), (.un .bnot (.bin .eq (.var 0) (.lit 0))), (.bin .eq (.var 6) (plcE3 (.var 2))), (.bin .eq (.var 5) (magE3 (.var 2))), (.bin .eq (.var 4) (plcE3 (.var 1))), (.bin .eq (.var 3) (magE3 (.var 1))), (.bin .le (.lit 0) (.var 0)), (.bin .le (.var 0) (.lit 6)), (.bin .le (.var 1) (.lit 4294967295)), (.bin .le (.var 2) (.lit 4294967295))], (.int .u64 (.ite (.bin .or binD3Rz2 (.bin .and binD3Rz3 (.un .bnot (.bin .eq (.bin .le (.lit 2147483648) (.var 1)) (.bin .lt (.var 2) (.lit 2147483648)))))) (.lit 2143289344) (.ite (.bin .eq (.bin .emod (.var 1) (.lit 2147483648)) (.lit 2139095040)) (.ite (.bin .le (.lit 2147483648) (.var 1)) (.lit 4286578688) (.lit 2139095040)) (.ite (.bin .eq (.bin .emod (.var 2) (.lit 2147483648)) (.lit 2139095040)) (.ite (.bin .lt (.var 2) (.lit 2147483648)) (.lit 4286578688) (.lit 2139095040)) (.fn 7 (.bin .add (.bin .mul (.var 3) (.lit 4096)) (.bin .add (.var 4) (.lit 2048))) (.bin .add (.bin .mul (.var 5) (.lit 4096)) (.bin .add (.var 6) (.lit 2048))) (.bin .add (.bin .mul (.bin .le (.lit 2147483648) (.var 1)) (.lit 2)) (.bin .lt (.var 2) (.lit 2147483648))))))))),
  ([(.bin .eq (.var 0) (.lit 2)), (.un .bnot (.bin .eq (.var 0) (.lit 1))), (.un .bnot (.bin .eq (.var 0) (.lit 0))), (.bin .eq (.var 6) (plcE3 (.var 2))), (.bin .eq (.var 5) (magE3 (.var 2))), (.bin .eq (.var 4) (plcE3 (.var 1))), (.bin .eq (.var 3) (magE3 (.var 1))), (.bin .le (.lit 0) (.var 0)), (.bin .le (.var 0) (.lit 6)), (.bin .le (.var 1) (.lit 4294967295)), (.bin .le (.var 2) (.lit 4294967295))], (.int .u64 (.ite (.bin .or binD3Rz2 (.bin .or (.bin .and (.bin .eq (.bin .emod (.var 1) (.lit 2147483648)) (.lit 2139095040)) (.bin .and (.un .bnot (.bin .eq (.bin .emod (.var 2) (.lit 2147483648)) (.lit 2139095040))) (.bin .eq (.var 5) (.lit 0)))) (.bin .and (.bin .eq (.bin .emod (.var 2) (.lit 2147483648)) (.lit 2139095040)) (.bin .and (.un .bnot (.bin .eq (.bin .emod (.var 1) (.lit 2147483648)) (.lit 2139095040))) (.bin .eq (.var 3) (.lit 0)))))) (.lit 2143289344) (.ite (.bin .or (.bin .eq (.bin .emod (.var 1) (.lit 2147483648)) (.lit 2139095040)) (.bin .eq (.bin .emod (.var 2) (.lit 2147483648)) (.lit 2139095040))) (.ite binD3Rz1 (.lit 4286578688) (.lit 2139095040)) (.bin .add (.ite binD3Rz1 (.lit 2147483648) (.lit 0)) (.fn 5 (.bin .mul (.var 3) (.var 5)) (.bin .add (.var 4) (.var 6)) (.lit 0))))))),
  ([(.bin .eq (.var 0) (.lit 3)), (.un .bnot (.bin .eq (.var 0) (.lit 2))), (.un .bnot (.bin .eq (.var 0) (.lit 1))), (.un .bnot (.bin .eq (.var 0) (.lit 0))), (.bin .eq (.var 6) (plcE3 (.var 2))), (.bin .eq (.var 5) (magE3 (.var 2))), (.bin .eq (.var 4) (plcE3 (.var 1))), (.bin .eq (.var 3) (magE3 (.var 1))), (.bin .le (.lit 0) (.var 0)), (.bin .le (.var 0) (.lit 6)), (.bin .le (.var 1) (.lit 4294967295)), (.bin .le (.var 2) (.lit 4294967295))], (.int .u64 (.ite (.bin .or binD3Rz2 (.bin .or binD3Rz3 (.bin .and (.bin .and (.un .bnot (.bin .eq (.bin .emod (.var 1) (.lit 2147483648)) (.lit 2139095040))) (.un .bnot (.bin .eq (.bin .emod (.var 2) (.lit 2147483648)) (.lit 2139095040)))) (.bin .and (.bin .eq (.var 3) (.lit 0)) (.bin .eq (.var 5) (.lit 0)))))) (.lit 2143289344) (.ite (.bin .or (.bin .eq (.bin .emod (.var 1) (.lit 2147483648)) (.lit 2139095040)) (.bin .and (.un .bnot (.bin .eq (.bin .emod (.var 2) (.lit 2147483648)) (.lit 2139095040))) (.bin .eq (.var 5) (.lit 0)))) (.ite binD3Rz1 (.lit 4286578688) (.lit 2139095040)) (.ite (.bin .or (.bin .eq (.bin .emod (.var 2) (.lit 2147483648)) (.lit 2139095040)) (.bin .eq (.var 3) (.lit 0))) (.ite binD3Rz1 (.lit 2147483648) (.lit 0)) (.bin .add (.ite binD3Rz1 (.lit 2147483648) (.lit 0)) (.fn 9 (.bin .add (.bin .mul (.var 3) (.lit 4096)) (.bin .add (.var 4) (.lit 2048))) (.bin .add (.bin .mul (.var 5) (.lit 4096)) (.bin .add (.var 6) (.lit 2048))) (.lit 0)))))))),
  ([(.bin .eq (.var 0) (.lit 4)), (.un .bnot (.bin .eq (.var 0) (.lit 3))), (.un .bnot (.bin .eq (.var 0) (.lit 2))), (.un .bnot (.bin .eq (.var 0) (.lit 1))), (.un .bnot (.bin .eq (.var 0) (.lit 0))), (.bin .eq (.var 6) (plcE3 (.var 2))), (.bin .eq (.var 5) (magE3 (.var 2))), (.bin .eq (.var 4) (plcE3 (.var 1))), (.bin .eq (.var 3) (magE3 (.var 1))), (.bin .le (.lit 0) (.var 0)), (.bin .le (.var 0) (.lit 6)), (.bin .le (.var 1) (.lit 4294967295)), (.bin .le (.var 2) (.lit 4294967295))], (.int .u64 binD3Rz0)),
  ([(.bin .eq (.var 0) (.lit 5)), (.un .bnot (.bin .eq (.var 0) (.lit 4))), (.un .bnot (.bin .eq (.var 0) (.lit 3))), (.un .bnot (.bin .eq (.var 0) (.lit 2))), (.un .bnot (.bin .eq (.var 0) (.lit 1))), (.un .bnot (.bin .eq (.var 0) (.lit 0))), (.bin .eq (.var 6) (plcE3 (.var 2))), (.bin .eq (.var 5) (magE3 (.var 2))), (.bin .eq (.var 4) (plcE3 (.var 1))), (.bin .eq (.var 3) (magE3 (.var 1))), (.bin .le (.lit 0) (.var 0)), (.bin .le (.var 0) (.lit 6)), (.bin .le (.var 1) (.lit 4294967295)), (.bin .le (.var 2) (.lit 4294967295))], (.int .u64 binD3Rz0)),
  ([(.un .bnot (.bin .eq (.var 0) (.lit 5))), (.un .bnot (.bin .eq (.var 0) (.lit 4))), (.un .bnot (.bin .eq (.var 0) (.lit 3))), (.un .bnot (.bin .eq (.var 0) (.lit 2))), (.un .bnot (.bin .eq (.var 0) (.lit 1))), (.un .bnot (.bin .eq (.var 0) (.lit 0))), (.bin .eq (.var 6) (plcE3 (.var 2))), (.bin .eq (.var 5) (magE3 (.var 2))), (.bin .eq (.var 4) (plcE3 (.var 1))), (.bin .eq (.var 3) (magE3 (.var 1))), (.bin .le (.lit 0) (.var 0)), (.bin .le (.var 0) (.lit 6)), (.bin .le (.var 1) (.lit 4294967295)), (.bin .le (.var 2) (.lit 4294967295))], (.int .u64 (.bin (.bits .or .u64) (.bin (.bits .andNot .u64) (.var 1) (.ite (.un .bnot (.un .bnot (.lit 1))) (.lit 2147483648) (.lit 0))) (.bin (.bits .and .u64) (.var 2) (.ite (.un .bnot (.un .bnot (.lit 1))) (.lit 2147483648) (.lit 0))))))]
set_option maxRecDepth 100000 in
theorem binD3Ran : runOfG Try.prog (orcs (nameO (gOracle [apartD3])) (gOracle (gsD03 ++ [sumD3, mulD3, quoD3, extrD3]))) noLoops (bodies fns) [] 4000 binD3 = some binD3R := by kernel_rfl
end Go.Proofs.Ytnodelimomljbaa.RunRefE3

/- The reference's operations of one and two3 doubles in numbers. No condition. -/
namespace Go.Proofs.Ytnodelimomljbaa.PlainRefE3
open Go Go.Sx Go.Sx.Flt Go.Sx.Ref Go.Proofs.Ytnodelimomljbaa.RunRefE3 Go.Proofs.Ytnodelimomljbaa.PlainRefA3 Go.Proofs.Ytnodelimomljbaa.PlainRefA Go.Proofs.Ytnodelimomljbaa.PlainRefB3 Go.Proofs.Ytnodelimomljbaa.PlainRefC3 Go.Proofs.Ytnodelimomljbaa.PlainRefD3
set_option linter.unusedSimpArgs false
set_option linter.unusedVariables false
set_option maxHeartbeats 2000000 in
theorem extr_plain (u : Nat → Int) (hk : KindOk u 0 extrD3.sp.ks) (hp : pcOk ⟨u, fnG⟩ extrD3.sp.pre) : Keeps ⟨u, fnG⟩ extrD3.sp.res extrD3R := by
  have s0 := bool_of hk.1
  have hx : 0 ≤ u 1 ∧ u 1 ≤ 4294967295 := ⟨(of_kind hk.2.1).1, le_of (hp (bi .le (v 1) (.lit 4294967295)) (by simp [extrD3, bi]))⟩
  have hy : 0 ≤ u 2 ∧ u 2 ≤ 4294967295 := ⟨(of_kind hk.2.2.1).1, le_of (hp (bi .le (v 2) (.lit 4294967295)) (by simp [extrD3, bi]))⟩
  have F := pick_facts3 hx hy
  unfold pick3 at F
  have n1 := ford_self3 hx
  have n2 := ford_self3 hy
  simp only [magE3, plcE3, rE3, B523, I643, M633, extrD3, extrD3R, extrD3Rz0, extrD3Rz1, extrE3, pickU3, nanU3, nan643', no, un, Keeps, chain, unOne, List.length, Nat.beq, SameL, v, bi, den_iteP, den_ltP, den_leP, E.prop]
  simp only [E.den, Bi.den, Un.den, nn01 s0]
  generalize fordI .f32 (u 1) (u 1) = D1 at n1 ⊢
  generalize fordI .f32 (u 2) (u 2) = D2 at n2 ⊢
  generalize fconvI .f64 .f32 (fpickI true (fconvI .f32 .f64 (u 1)) (fconvI .f32 .f64 (u 2))) = T at F ⊢
  generalize fconvI .f64 .f32 (fpickI false (fconvI .f32 .f64 (u 1)) (fconvI .f32 .f64 (u 2))) = G at F ⊢
  generalize bitI .or .u64 (u 1) (u 2) = O at F ⊢
  generalize bitI .and .u64 (u 1) (u 2) = A at F ⊢
  generalize iteP (2147483648 ≤ u 1) (2147483648 - u 1) (u 1) = a at F ⊢
  generalize iteP (2147483648 ≤ u 2) (2147483648 - u 2) (u 2) = b at F ⊢
  have c1 : (a < b ∧ iteP (a < b) 1 0 = 1) ∨ (¬ a < b ∧ iteP (a < b) 1 0 = 0) := by
    by_cases h : a < b
    · exact .inl ⟨h, iteP_pos h _ _⟩
    · exact .inr ⟨h, iteP_neg h _ _⟩
  generalize iteP (a < b) 1 0 = c at c1 ⊢
  repeat' apply And.intro
  all_goals first | trivial | (intros; exact ⟨trivial, iteP_case (fun _ => iteP_case (fun _ => by omega) fun _ => iteP_case (fun _ => by omega) fun _ => by omega) (fun _ => iteP_case (fun _ => by omega) fun _ => iteP_case (fun _ => by omega) fun _ => by omega), trivial⟩)
theorem extr_bd (u : Nat → Int) (hk : KindOk u 0 extrD3.sp.ks) (hp : pcOk ⟨u, fnG⟩ extrD3.sp.pre) : extrD3.sp.bds.ok ⟨u, fnG⟩ := by
  have hx : 0 ≤ u 1 ∧ u 1 ≤ 4294967295 := ⟨(of_kind hk.2.1).1, le_of (hp (bi .le (v 1) (.lit 4294967295)) (by simp [extrD3, bi]))⟩
  have hy : 0 ≤ u 2 ∧ u 2 ≤ 4294967295 := ⟨(of_kind hk.2.2.1).1, le_of (hp (bi .le (v 2) (.lit 4294967295)) (by simp [extrD3, bi]))⟩
  have n1 := ford_self3 hx
  have n2 := ford_self3 hy
  refine bd_of ?_
  simp only [extrE3, pickU3, nanU3, nan643', no, un, v, bi, den_iteP, E.prop]
  simp only [E.den, Bi.den, Un.den]
  exact iteP_in (fun _ => iteP_in (fun _ => by omega) fun _ => iteP_in (fun _ => by omega) fun _ => pick_in3 _ hx hy (by omega) (by omega)) (fun _ => iteP_in (fun _ => by omega) fun _ => iteP_in (fun _ => by omega) fun _ => pick_in3 _ hx hy (by omega) (by omega))
theorem one_true : iteP (¬ ¬ (1 : Int) ≠ 0) 2147483648 0 = 2147483648 := iteP_pos (by omega) _ _
set_option maxHeartbeats 2000000 in
theorem un_plain (u : Nat → Int) (hk : KindOk u 0 unD3.sp.ks) (hp : pcOk ⟨u, fnG⟩ unD3.sp.pre) : Keeps ⟨u, fnG⟩ unD3.sp.res unD3R := by
  have hx : 0 ≤ u 1 ∧ u 1 ≤ 4294967295 := ⟨(of_kind hk.2.1).1, le_of (hp (bi .le (v 1) (.lit 4294967295)) (by simp [unD3, bi]))⟩
  simp only [magE3, plcE3, rE3, B523, I643, M633, unD3, unD3R, unE3, isK, canW3, canR3, nan643', M633, no, un, Keeps, chain, unOne, List.length, Nat.beq, SameL, v, bi, den_iteP, den_bitsP, E.prop]
  simp only [E.den, Bi.den, Un.den, one_true]
  refine ⟨?_, ?_, ?_, ?_, trivial⟩
  · intro p0 p1 p2 h0
    exact ⟨trivial, iteP_of_pos h0 rfl, trivial⟩
  · intro p0 p1 p2 h0 h1
    exact ⟨trivial, iteP_of_neg h0 (iteP_of_pos h1 rfl), trivial⟩
  · intro p0 p1 p2 h0 h1 h6 a2 a3
    exact ⟨trivial, iteP_of_neg h0 (iteP_of_neg h1 (iteP_of_neg (by omega) (iteP_of_neg (by omega) (iteP_of_neg (by omega) (iteP_of_neg (by omega) (root_code3 (word_of3 hx a2 a3))))))), trivial⟩
  · intro p0 p1 p2 h0 h1 h6
    refine ⟨trivial, iteP_of_neg h0 (iteP_of_neg h1 ?_), trivial⟩
    exact iteP_case (fun h => iteP_casel (fun _ => rfl) (fun g => by omega)) fun h => iteP_case (fun h => iteP_casel (fun _ => by omega) fun g => iteP_casel (fun _ => rfl) (fun g => by omega)) fun h => iteP_case (fun h => iteP_casel (fun _ => by omega) fun g => iteP_casel (fun _ => by omega) fun g => iteP_casel (fun _ => rfl) (fun g => by omega)) fun h => iteP_case (fun h => iteP_casel (fun _ => by omega) fun g => iteP_casel (fun _ => by omega) fun g => iteP_casel (fun _ => by omega) fun g => rfl) fun h => by omega
theorem bits_in (op : BinOp) {x y : Int} (hx : 0 ≤ x ∧ x ≤ 4294967295) (hy : 0 ≤ y ∧ y ≤ 4294967295) : 0 ≤ bitI op .u64 x y ∧ bitI op .u64 x y ≤ 4294967295 := by
  have ex : (BitVec.ofInt 64 x).toNat = x.toNat := by rw [ofInt_nat]; omega
  have ey : (BitVec.ofInt 64 y).toNat = y.toNat := by rw [ofInt_nat]; omega
  have hx2 : x.toNat < 2 ^ 32 := by have : (2 : Nat) ^ 32 = 4294967296 := by decide
                                    omega
  have hy2 : y.toNat < 2 ^ 32 := by have : (2 : Nat) ^ 32 = 4294967296 := by decide
                                    omega
  have fin : ∀ n : Nat, n < 2 ^ 32 → 0 ≤ IntKind.u64.wrap (n : Int) ∧ IntKind.u64.wrap (n : Int) ≤ 4294967295 := fun n hn => by
    have : (2 : Nat) ^ 32 = 4294967296 := by decide
    rw [u64_wr]; omega
  unfold bitI
  show 0 ≤ IntKind.u64.wrap ((match op with | .and => (BitVec.ofInt 64 x &&& BitVec.ofInt 64 y).toNat | .or => (BitVec.ofInt 64 x ||| BitVec.ofInt 64 y).toNat | .xor => (BitVec.ofInt 64 x ^^^ BitVec.ofInt 64 y).toNat | _ => (BitVec.ofInt 64 x &&& ~~~(BitVec.ofInt 64 y)).toNat : Nat) : Int) ∧ IntKind.u64.wrap ((match op with | .and => (BitVec.ofInt 64 x &&& BitVec.ofInt 64 y).toNat | .or => (BitVec.ofInt 64 x ||| BitVec.ofInt 64 y).toNat | .xor => (BitVec.ofInt 64 x ^^^ BitVec.ofInt 64 y).toNat | _ => (BitVec.ofInt 64 x &&& ~~~(BitVec.ofInt 64 y)).toNat : Nat) : Int) ≤ 4294967295
  apply fin
  split
  · rw [BitVec.toNat_and, ex]; exact Nat.lt_of_le_of_lt Nat.and_le_left hx2
  · rw [BitVec.toNat_or, ex, ey]; exact Nat.or_lt_two_pow hx2 hy2
  · rw [BitVec.toNat_xor, ex, ey]; exact Nat.xor_lt_two_pow hx2 hy2
  · rw [BitVec.toNat_and, ex]; exact Nat.lt_of_le_of_lt Nat.and_le_left hx2
theorem m31 : (0 : Int) ≤ 2147483648 ∧ (2147483648 : Int) ≤ 4294967295 := by decide
theorem can_rd {x : Int} (hx : 0 ≤ x ∧ x ≤ 4294967295) : 0 ≤ iteP (fconvI .f32 .f64 x = -1) 2143289344 (iteP (fsqrtI (fconvI .f32 .f64 x) = -1) 2143289344 (fconvI .f64 .f32 (fsqrtI (fconvI .f32 .f64 x)))) ∧
    iteP (fconvI .f32 .f64 x = -1) 2143289344 (iteP (fsqrtI (fconvI .f32 .f64 x) = -1) 2143289344 (fconvI .f64 .f32 (fsqrtI (fconvI .f32 .f64 x)))) ≤ 4294967295 := by
  have X : Word3 x (mO .f32 x) (pO .f32 x) := ⟨hx, fun _ => rfl, fun _ => rfl⟩
  rw [← root_code3 X]
  refine iteP_in (fun _ => by omega) fun _ => iteP_in (fun _ => by omega) fun _ => iteP_in (fun _ => iteP_in (fun _ => by omega) fun _ => by omega) fun _ => ?_
  have := rung_in (2 * 0) 0
  have : 0 ≤ fnG 11 ((mO .f32 x : Int) * 4096 + (pO .f32 x + 2048)) 0 0 ∧ fnG 11 ((mO .f32 x : Int) * 4096 + (pO .f32 x + 2048)) 0 0 ≤ 2139095040 := rung_in _ _
  omega
theorem un_bd (u : Nat → Int) (hk : KindOk u 0 unD3.sp.ks) (hp : pcOk ⟨u, fnG⟩ unD3.sp.pre) : unD3.sp.bds.ok ⟨u, fnG⟩ := by
  have hx : 0 ≤ u 1 ∧ u 1 ≤ 4294967295 := ⟨(of_kind hk.2.1).1, le_of (hp (bi .le (v 1) (.lit 4294967295)) (by simp [unD3, bi]))⟩
  refine bd_of ?_
  simp only [unE3, isK, canW3, canR3, nan643', M633, un, v, bi, den_iteP, den_bitsP, E.prop]
  simp only [E.den, Bi.den, Un.den]
  exact iteP_in (fun _ => bits_in _ hx m31) fun _ => iteP_in (fun _ => bits_in _ hx m31) fun _ => iteP_in (fun _ => can_wd _ hx) fun _ => iteP_in (fun _ => can_wd _ hx) fun _ => iteP_in (fun _ => can_wd _ hx) fun _ => iteP_in (fun _ => can_wd _ hx) fun _ => can_rd hx
theorem xb (x : Int) : (sO .f32 x ^^ false) = true ↔ 2147483648 ≤ x := by rw [Bool.xor_false]; exact sOD3 x
theorem xt (x : Int) : (sO .f32 x ^^ true) = true ↔ x < 2147483648 := by
  have h := sOD3 x
  rw [Bool.xor_true]
  by_cases g : 2147483648 ≤ x
  · rw [h.2 g]; simp; omega
  · rw [Bool.eq_false_iff.2 (fun k => g (h.1 k))]; simp; omega
set_option maxHeartbeats 2000000 in
theorem bin_plain (u : Nat → Int) (hk : KindOk u 0 binD3.sp.ks) (hp : pcOk ⟨u, fnG⟩ binD3.sp.pre) : Keeps ⟨u, fnG⟩ binD3.sp.res binD3R := by
  have hx : 0 ≤ u 1 ∧ u 1 ≤ 4294967295 := ⟨(of_kind hk.2.1).1, le_of (hp (bi .le (v 1) (.lit 4294967295)) (by simp [binD3, bi]))⟩
  have hy : 0 ≤ u 2 ∧ u 2 ≤ 4294967295 := ⟨(of_kind hk.2.2.1).1, le_of (hp (bi .le (v 2) (.lit 4294967295)) (by simp [binD3, bi]))⟩
  have dfn : ∀ (f : Nat) (a b c : E), (E.fn f a b c).den ⟨u, fnG⟩ = fnG f (a.den ⟨u, fnG⟩) (b.den ⟨u, fnG⟩) (c.den ⟨u, fnG⟩) := fun _ _ _ _ => rfl
  simp only [magE3, plcE3, rE3, B523, I643, M633, binD3, binD3R, binD3Rz0, binD3Rz1, binD3Rz2, binD3Rz3, binE3, isK, farU3, pickU3, nanU3, canU3, nan643', M633, no, un, Keeps, chain, unOne, List.length, Nat.beq, SameL, v, bi, den_iteP, den_bitsP, den_addP, den_mulP, den_ltP, den_leP, dfn, E.prop]
  simp only [E.den, Bi.den, Un.den, one_true]
  have add : ∀ (_ : u 3 = _) (_ : u 4 = _) (_ : u 5 = _) (_ : u 6 = _), _ := fun a b c d => add_code3 (N := 2143289344) false (word_of3 hx a b) (word_of3 hy c d) rfl rfl (xb (u 2))
  have sub : ∀ (_ : u 3 = _) (_ : u 4 = _) (_ : u 5 = _) (_ : u 6 = _), _ := fun a b c d => add_code3 (N := 2143289344) true (word_of3 hx a b) (word_of3 hy c d) rfl rfl (xt (u 2))
  have mul : ∀ (_ : u 3 = _) (_ : u 4 = _) (_ : u 5 = _) (_ : u 6 = _), _ := fun a b c d => mul_code3 (N := 2143289344) (word_of3 hx a b) (word_of3 hy c d)
  have quo : ∀ (_ : u 3 = _) (_ : u 4 = _) (_ : u 5 = _) (_ : u 6 = _), _ := fun a b c d => quo_code3 (N := 2143289344) (word_of3 hx a b) (word_of3 hy c d)
  refine ⟨?_, ?_, ?_, ?_, ?_, ?_, ?_, ?_, ?_, ?_, ?_, ?_, ?_, ?_, trivial⟩
  · intro p0 p00 p1 p2 a3 a4 a5 a6 h0
    exact ⟨trivial, iteP_of_pos h0 (add a3 a4 a5 a6), trivial⟩
  · intro p0 p00 p1 p2 a3 a4 a5 a6 h0 h1
    exact ⟨trivial, iteP_of_neg h0 (iteP_of_pos h1 (sub a3 a4 a5 a6)), trivial⟩
  · intro p0 p00 p1 p2 a3 a4 a5 a6 h0 h1 h2
    exact ⟨trivial, iteP_of_neg h0 (iteP_of_neg h1 (iteP_of_pos h2 (mul a3 a4 a5 a6))), trivial⟩
  · intro p0 p00 p1 p2 a3 a4 a5 a6 h0 h1 h2 h3
    exact ⟨trivial, iteP_of_neg h0 (iteP_of_neg h1 (iteP_of_neg h2 (iteP_of_pos h3 (quo a3 a4 a5 a6)))), trivial⟩
  · intro p0 p00 p1 p2 a3 a4 a5 a6 h0 h1 h2 h3 h4
    exact ⟨trivial, iteP_of_neg h0 (iteP_of_neg h1 (iteP_of_neg h2 (iteP_of_neg h3 (iteP_of_pos h4 (iteP_neg (by omega) _ _))))), trivial⟩
  · intro p0 p00 p1 p2 a3 a4 a5 a6 h0 h1 h2 h3 h4 h5
    exact ⟨trivial, iteP_of_neg h0 (iteP_of_neg h1 (iteP_of_neg h2 (iteP_of_neg h3 (iteP_of_neg h4 (iteP_of_pos h5 (iteP_pos (by omega) _ _)))))), trivial⟩
  · intro p0 p00 p1 p2 a3 a4 a5 a6 h0 h1 h2 h3 h4 h5
    exact ⟨trivial, iteP_of_neg h0 (iteP_of_neg h1 (iteP_of_neg h2 (iteP_of_neg h3 (iteP_of_neg h4 (iteP_of_neg h5 rfl))))), trivial⟩
  · intro p0 p00 p1 p2 a3 a4 a5 a6 h0
    exact ⟨trivial, iteP_of_pos h0 (add a3 a4 a5 a6), trivial⟩
  · intro p0 p00 p1 p2 a3 a4 a5 a6 h0 h1
    exact ⟨trivial, iteP_of_neg h0 (iteP_of_pos h1 (sub a3 a4 a5 a6)), trivial⟩
  · intro p0 p00 p1 p2 a3 a4 a5 a6 h0 h1 h2
    exact ⟨trivial, iteP_of_neg h0 (iteP_of_neg h1 (iteP_of_pos h2 (mul a3 a4 a5 a6))), trivial⟩
  · intro p0 p00 p1 p2 a3 a4 a5 a6 h0 h1 h2 h3
    exact ⟨trivial, iteP_of_neg h0 (iteP_of_neg h1 (iteP_of_neg h2 (iteP_of_pos h3 (quo a3 a4 a5 a6)))), trivial⟩
  · intro p0 p00 p1 p2 a3 a4 a5 a6 h0 h1 h2 h3 h4
    exact ⟨trivial, iteP_of_neg h0 (iteP_of_neg h1 (iteP_of_neg h2 (iteP_of_neg h3 (iteP_of_pos h4 (iteP_neg (by omega) _ _))))), trivial⟩
  · intro p0 p00 p1 p2 a3 a4 a5 a6 h0 h1 h2 h3 h4 h5
    exact ⟨trivial, iteP_of_neg h0 (iteP_of_neg h1 (iteP_of_neg h2 (iteP_of_neg h3 (iteP_of_neg h4 (iteP_of_pos h5 (iteP_pos (by omega) _ _)))))), trivial⟩
  · intro p0 p00 p1 p2 a3 a4 a5 a6 h0 h1 h2 h3 h4 h5
    exact ⟨trivial, iteP_of_neg h0 (iteP_of_neg h1 (iteP_of_neg h2 (iteP_of_neg h3 (iteP_of_neg h4 (iteP_of_neg h5 rfl))))), trivial⟩
theorem far_in (op : BinOp) (x y : Int) : farI op .f32 x y = -1 ∨ (0 ≤ farI op .f32 x y ∧ farI op .f32 x y ≤ 4294967295) := by
  by_cases h : farI op .f32 x y = -1
  · exact .inl h
  · exact .inr (far_good h).1
theorem bin_bd (u : Nat → Int) (hk : KindOk u 0 binD3.sp.ks) (hp : pcOk ⟨u, fnG⟩ binD3.sp.pre) : binD3.sp.bds.ok ⟨u, fnG⟩ := by
  have hx : 0 ≤ u 1 ∧ u 1 ≤ 4294967295 := ⟨(of_kind hk.2.1).1, le_of (hp (bi .le (v 1) (.lit 4294967295)) (by simp [binD3, bi]))⟩
  have hy : 0 ≤ u 2 ∧ u 2 ≤ 4294967295 := ⟨(of_kind hk.2.2.1).1, le_of (hp (bi .le (v 2) (.lit 4294967295)) (by simp [binD3, bi]))⟩
  have n1 := ford_self3 hx
  have n2 := ford_self3 hy
  have fin : ∀ op, farI op .f32 (u 1) (u 2) = -1 ∨ (0 ≤ farI op .f32 (u 1) (u 2) ∧ farI op .f32 (u 1) (u 2) ≤ 4294967295) := fun op => far_in op (u 1) (u 2)
  refine bd_of ?_
  simp only [binE3, isK, farU3, pickU3, nanU3, canU3, nan643', M633, no, un, v, bi, den_iteP, den_bitsP, E.prop]
  simp only [E.den, Bi.den, Un.den]
  exact iteP_in (fun _ => can_bd (fin _)) fun _ => iteP_in (fun _ => can_bd (fin _)) fun _ => iteP_in (fun _ => can_bd (fin _)) fun _ => iteP_in (fun _ => can_bd (fin _)) fun _ => iteP_in (fun _ => iteP_in (fun _ => by omega) fun _ => iteP_in (fun _ => by omega) fun _ => pick_in3 _ hx hy (by omega) (by omega)) fun _ =>
    iteP_in (fun _ => iteP_in (fun _ => by omega) fun _ => iteP_in (fun _ => by omega) fun _ => pick_in3 _ hx hy (by omega) (by omega)) fun _ => bits_in _ (bits_in _ hx m31) (bits_in _ hy m31)
end Go.Proofs.Ytnodelimomljbaa.PlainRefE3

/- The reference's exported operations of single floats come to the same expressions as the program's; the program's root. No condition. -/
namespace Go.Proofs.Ytnodelimomljbaa.PlainRefG3
open Go Go.Sx Go.Sx.Flt Go.Sx.Ref Go.Proofs.Ytnodelimomljbaa.RunRefG3 Go.Proofs.Ytnodelimomljbaa.PlainRefA
set_option linter.unusedSimpArgs false
set_option linter.unusedVariables false
theorem unOne2 (a b : Option IntKind × E) (vs : List V) : unOne [a, b].length (.tup vs) = vs := rfl
theorem unV_den (ρ : Env) : unRV32.den ρ = (selF unR32L (.lit 0) (ρ.v 0)).den ρ := den_sel _ _ _
theorem unE_den (ρ : Env) : unRE32.den ρ = (selF ([139, 140, 141, 142, 143, 144, 145].map fun k => (k, .lit 0)) (.lit 400) (ρ.v 0)).den ρ := den_sel _ _ _
theorem binV_den (ρ : Env) : binTV32.den ρ = (selF binT32L (.lit 0) (ρ.v 0)).den ρ := den_sel _ _ _
theorem binE_den (ρ : Env) : binTE32.den ρ = (selF ([91, 92, 93, 94, 95, 96, 146, 147, 148, 149, 150, 151, 152].map fun k => (k, .lit 0)) (.lit 400) (ρ.v 0)).den ρ := den_sel _ _ _
theorem den_unP (ρ : Env) (o : Un) (a : E) : (E.un o a).den ρ = o.den (a.den ρ) := rfl
theorem u32_w (n : Int) : IntKind.u32.wrap n = n % 4294967296 := by simp [IntKind.wrap, IntKind.bits, IntKind.signed]
theorem low_nat (x : Int) : (BitVec.ofInt 64 (IntKind.u32.wrap x)).toNat = (BitVec.ofInt 64 x).toNat % 2 ^ 32 := by
  rw [ofInt_nat, ofInt_nat, u32_w, show (2 : Nat) ^ 32 = 4294967296 by decide]
  omega
theorem low_lt (x : Int) : (BitVec.ofInt 64 (IntKind.u32.wrap x)).toNat < 2 ^ 32 := by rw [low_nat]; exact Nat.mod_lt _ (Nat.two_pow_pos _)
def bitB (op : BinOp) (X Y : BitVec 64) : Nat := match op with
  | .and => (X &&& Y).toNat
  | .or => (X ||| Y).toNat
  | .xor => (X ^^^ Y).toNat
  | _ => (X &&& ~~~Y).toNat
theorem bitB_lt {op : BinOp} {X Y : BitVec 64} (hx : X.toNat < 2 ^ 32) (hy : Y.toNat < 2 ^ 32) : bitB op X Y < 2 ^ 32 := by
  unfold bitB
  split
  · rw [BitVec.toNat_and]; exact Nat.lt_of_le_of_lt Nat.and_le_left hx
  · rw [BitVec.toNat_or]; exact Nat.or_lt_two_pow hx hy
  · rw [BitVec.toNat_xor]; exact Nat.xor_lt_two_pow hx hy
  · rw [BitVec.toNat_and]; exact Nat.lt_of_le_of_lt Nat.and_le_left hx
theorem bitB_low {op : BinOp} {X Y X' Y' : BitVec 64} (nx : X'.toNat = X.toNat % 2 ^ 32) (ny : Y'.toNat = Y.toNat % 2 ^ 32) : bitB op X Y % 2 ^ 32 = bitB op X' Y' := by
  have hx : X'.toNat < 2 ^ 32 := by rw [nx]; exact Nat.mod_lt _ (Nat.two_pow_pos _)
  have hy : Y'.toNat < 2 ^ 32 := by rw [ny]; exact Nat.mod_lt _ (Nat.two_pow_pos _)
  rw [← Nat.mod_eq_of_lt (bitB_lt (op := op) hx hy)]
  unfold bitB
  split
  · rw [BitVec.toNat_and, BitVec.toNat_and, Nat.and_mod_two_pow, Nat.and_mod_two_pow, nx, ny, Nat.mod_mod, Nat.mod_mod]
  · rw [BitVec.toNat_or, BitVec.toNat_or, Nat.or_mod_two_pow, Nat.or_mod_two_pow, nx, ny, Nat.mod_mod, Nat.mod_mod]
  · rw [BitVec.toNat_xor, BitVec.toNat_xor, Nat.xor_mod_two_pow, Nat.xor_mod_two_pow, nx, ny, Nat.mod_mod, Nat.mod_mod]
  · rw [BitVec.toNat_and, BitVec.toNat_and, Nat.and_mod_two_pow, Nat.and_mod_two_pow, nx, Nat.mod_mod, BitVec.toNat_not, BitVec.toNat_not, ny]
    congr 1
    have e : (2 : Nat) ^ 32 = 4294967296 := by decide
    have e2 : (2 : Nat) ^ 64 = 18446744073709551616 := by decide
    have := Y.isLt
    rw [e, e2]
    omega
theorem bitB_top (op : BinOp) (X Y : BitVec 64) : bitB op X Y < 2 ^ 64 := by
  unfold bitB
  split <;> exact BitVec.isLt _
theorem bits32 (op : BinOp) (x y : Int) : IntKind.u32.wrap (bitI op .i64 x y) = bitI op .u64 (IntKind.u32.wrap x) (IntKind.u32.wrap y) := by
  have e1 : bitI op .i64 x y = IntKind.i64.wrap (bitB op (BitVec.ofInt 64 x) (BitVec.ofInt 64 y) : Nat) := rfl
  have e2 : bitI op .u64 (IntKind.u32.wrap x) (IntKind.u32.wrap y) = IntKind.u64.wrap (bitB op (BitVec.ofInt 64 (IntKind.u32.wrap x)) (BitVec.ofInt 64 (IntKind.u32.wrap y)) : Nat) := rfl
  rw [e1, e2, ← bitB_low (low_nat x) (low_nat y)]
  have h := bitB_top op (BitVec.ofInt 64 x) (BitVec.ofInt 64 y)
  generalize bitB op (BitVec.ofInt 64 x) (BitVec.ofInt 64 y) = n at h ⊢
  have e : (2 : Nat) ^ 32 = 4294967296 := by decide
  have e' : (2 : Nat) ^ 64 = 18446744073709551616 := by decide
  rw [i64_nat (by omega), u32_w, u64_wr, e]
  split <;> omega
theorem sign_low : IntKind.u32.wrap 2147483648 = 2147483648 := by decide
theorem bits_s (op : BinOp) (x : Int) : bitI op .u64 (IntKind.u32.wrap x) 2147483648 = IntKind.u32.wrap (bitI op .i64 x 2147483648) := by
  have := bits32 op x 2147483648
  rw [sign_low] at this
  exact this.symm
theorem copy_s (x y : Int) : bitI .or .u64 (bitI .andNot .u64 (IntKind.u32.wrap x) 2147483648) (bitI .and .u64 (IntKind.u32.wrap y) 2147483648) = IntKind.u32.wrap (bitI .or .i64 (bitI .andNot .i64 x 2147483648) (bitI .and .i64 y 2147483648)) := by
  rw [bits_s .andNot, bits_s .and, ← bits32]
set_option maxHeartbeats 1000000 in
theorem refUn_plain (u : Nat → Int) (hk : KindOk u 0 refUn3S.ks) (hp : pcOk ⟨u, fnG⟩ refUn3S.pre) : Keeps ⟨u, fnG⟩ refUn3S.res refUn3R := by
  simp only [refUn3S, refUn3R]
  simp only [Keeps, chain, unOne2, SameL, unV_den, unE_den, den_iteP, den_unP, den_bitsP, E.prop, true_and, and_true]
  simp only [E.den, Bi.den, Un.den]
  refine ⟨?_, ?_, ?_⟩
  · intro h1
    rw [selF_none unR32L _ _ (by simp [unR32L, unT32L]; omega), selF_none ([139, 140, 141, 142, 143, 144, 145].map fun k => (k, .lit 0)) _ _ (by simp; omega)]
    exact ⟨rfl, rfl⟩
  · intro h1 h2
    rw [selF_none unR32L _ _ (by simp [unR32L, unT32L]; omega), selF_none ([139, 140, 141, 142, 143, 144, 145].map fun k => (k, .lit 0)) _ _ (by simp; omega)]
    exact ⟨rfl, rfl⟩
  · intro h1 h2
    have hc : u 0 = 139 ∨ u 0 = 140 ∨ u 0 = 141 ∨ u 0 = 142 ∨ u 0 = 143 ∨ u 0 = 144 ∨ u 0 = 145 := by omega
    rcases hc with h | h | h | h | h | h | h
    · have h : u 0 = 139 := h
      have e1 : selF unR32L (.lit 0) 139 = u32 (bi (.bits .andNot .i64) (v 1) sign32) := rfl
      have e2 : selF ([139, 140, 141, 142, 143, 144, 145].map fun k => (k, .lit 0)) (.lit 400) 139 = .lit 0 := rfl
      rw [h, e1, e2]
      clear e1 e2
      refine ⟨?_, rfl⟩
      simp only [can32, pickE32, wholeE32, rootP32, nan32, x32, y32, o32, sign32, tr, bi, no, un, Flt.u32, Flt.i32, v, den_iteP, den_unP, E.prop]; simp only [E.den, Bi.den, Un.den]
      rw [iteP_pos (by decide)]
      all_goals exact bits_s .andNot (u 1)
    · have h : u 0 = 140 := h
      have e1 : selF unR32L (.lit 0) 140 = u32 (bi (.bits .xor .i64) (v 1) sign32) := rfl
      have e2 : selF ([139, 140, 141, 142, 143, 144, 145].map fun k => (k, .lit 0)) (.lit 400) 140 = .lit 0 := rfl
      rw [h, e1, e2]
      clear e1 e2
      refine ⟨?_, rfl⟩
      simp only [can32, pickE32, wholeE32, rootP32, nan32, x32, y32, o32, sign32, tr, bi, no, un, Flt.u32, Flt.i32, v, den_iteP, den_unP, E.prop]; simp only [E.den, Bi.den, Un.den]
      rw [iteP_neg (by decide), iteP_pos (by decide)]
      all_goals exact bits_s .xor (u 1)
    · have h : u 0 = 141 := h
      have e1 : selF unR32L (.lit 0) 141 = wholeE32 .up := rfl
      have e2 : selF ([139, 140, 141, 142, 143, 144, 145].map fun k => (k, .lit 0)) (.lit 400) 141 = .lit 0 := rfl
      rw [h, e1, e2]
      clear e1 e2
      refine ⟨?_, rfl⟩
      simp only [can32, pickE32, wholeE32, rootP32, nan32, x32, y32, o32, sign32, tr, bi, no, un, Flt.u32, Flt.i32, v, den_iteP, den_unP, E.prop]; simp only [E.den, Bi.den, Un.den]
      rw [iteP_neg (by decide), iteP_neg (by decide), iteP_pos (by decide)]
      all_goals exact rfl
    · have h : u 0 = 142 := h
      have e1 : selF unR32L (.lit 0) 142 = wholeE32 .down := rfl
      have e2 : selF ([139, 140, 141, 142, 143, 144, 145].map fun k => (k, .lit 0)) (.lit 400) 142 = .lit 0 := rfl
      rw [h, e1, e2]
      clear e1 e2
      refine ⟨?_, rfl⟩
      simp only [can32, pickE32, wholeE32, rootP32, nan32, x32, y32, o32, sign32, tr, bi, no, un, Flt.u32, Flt.i32, v, den_iteP, den_unP, E.prop]; simp only [E.den, Bi.den, Un.den]
      rw [iteP_neg (by decide), iteP_neg (by decide), iteP_neg (by decide), iteP_pos (by decide)]
      all_goals exact rfl
    · have h : u 0 = 143 := h
      have e1 : selF unR32L (.lit 0) 143 = wholeE32 .zero := rfl
      have e2 : selF ([139, 140, 141, 142, 143, 144, 145].map fun k => (k, .lit 0)) (.lit 400) 143 = .lit 0 := rfl
      rw [h, e1, e2]
      clear e1 e2
      refine ⟨?_, rfl⟩
      simp only [can32, pickE32, wholeE32, rootP32, nan32, x32, y32, o32, sign32, tr, bi, no, un, Flt.u32, Flt.i32, v, den_iteP, den_unP, E.prop]; simp only [E.den, Bi.den, Un.den]
      rw [iteP_neg (by decide), iteP_neg (by decide), iteP_neg (by decide), iteP_neg (by decide), iteP_pos (by decide)]
      all_goals exact rfl
    · have h : u 0 = 144 := h
      have e1 : selF unR32L (.lit 0) 144 = wholeE32 .even := rfl
      have e2 : selF ([139, 140, 141, 142, 143, 144, 145].map fun k => (k, .lit 0)) (.lit 400) 144 = .lit 0 := rfl
      rw [h, e1, e2]
      clear e1 e2
      refine ⟨?_, rfl⟩
      simp only [can32, pickE32, wholeE32, rootP32, nan32, x32, y32, o32, sign32, tr, bi, no, un, Flt.u32, Flt.i32, v, den_iteP, den_unP, E.prop]; simp only [E.den, Bi.den, Un.den]
      rw [iteP_neg (by decide), iteP_neg (by decide), iteP_neg (by decide), iteP_neg (by decide), iteP_neg (by decide), iteP_pos (by decide)]
      all_goals exact rfl
    · have h : u 0 = 145 := h
      have e1 : selF unR32L (.lit 0) 145 = rootP32 := rfl
      have e2 : selF ([139, 140, 141, 142, 143, 144, 145].map fun k => (k, .lit 0)) (.lit 400) 145 = .lit 0 := rfl
      rw [h, e1, e2]
      clear e1 e2
      refine ⟨?_, rfl⟩
      simp only [can32, pickE32, wholeE32, rootP32, nan32, x32, y32, o32, sign32, tr, bi, no, un, Flt.u32, Flt.i32, v, den_iteP, den_unP, E.prop]; simp only [E.den, Bi.den, Un.den]
      rw [iteP_neg (by decide), iteP_neg (by decide), iteP_neg (by decide), iteP_neg (by decide), iteP_neg (by decide), iteP_neg (by decide)]
      all_goals exact rfl
set_option maxHeartbeats 1000000 in
theorem refBin_plain (u : Nat → Int) (hk : KindOk u 0 refBin3S.ks) (hp : pcOk ⟨u, fnG⟩ refBin3S.pre) : Keeps ⟨u, fnG⟩ refBin3S.res refBin3R := by
  simp only [refBin3S, refBin3R]
  simp only [Keeps, chain, unOne2, SameL, binV_den, binE_den, den_iteP, den_unP, den_bitsP, E.prop, true_and, and_true]
  simp only [E.den, Bi.den, Un.den]
  refine ⟨?_, ?_, ?_, ?_, ?_⟩
  · intro h1 h2
    have hc : u 0 = 91 ∨ u 0 = 92 ∨ u 0 = 93 ∨ u 0 = 94 ∨ u 0 = 95 ∨ u 0 = 96 := by omega
    rcases hc with h | h | h | h | h | h
    · have h : u 0 = 91 := h
      have e1 : selF binT32L (.lit 0) 91 = tr (bi .eq o32 (.lit 0)) := rfl
      have e2 : selF ([91, 92, 93, 94, 95, 96, 146, 147, 148, 149, 150, 151, 152].map fun k => (k, .lit 0)) (.lit 400) 91 = .lit 0 := rfl
      rw [h, e1, e2]
      clear e1 e2
      refine ⟨?_, rfl⟩
      simp only [can32, pickE32, wholeE32, rootP32, nan32, x32, y32, o32, sign32, tr, bi, no, un, Flt.u32, Flt.i32, v, den_iteP, den_unP, E.prop]; simp only [E.den, Bi.den, Un.den]
      rw [iteP_pos (by decide)]
      all_goals exact rfl
    · have h : u 0 = 92 := h
      have e1 : selF binT32L (.lit 0) 92 = tr (no (bi .eq o32 (.lit 0))) := rfl
      have e2 : selF ([91, 92, 93, 94, 95, 96, 146, 147, 148, 149, 150, 151, 152].map fun k => (k, .lit 0)) (.lit 400) 92 = .lit 0 := rfl
      rw [h, e1, e2]
      clear e1 e2
      refine ⟨?_, rfl⟩
      simp only [can32, pickE32, wholeE32, rootP32, nan32, x32, y32, o32, sign32, tr, bi, no, un, Flt.u32, Flt.i32, v, den_iteP, den_unP, E.prop]; simp only [E.den, Bi.den, Un.den]
      rw [iteP_neg (by decide), iteP_pos (by decide)]
      all_goals exact rfl
    · have h : u 0 = 93 := h
      have e1 : selF binT32L (.lit 0) 93 = tr (bi .eq o32 (.lit 1)) := rfl
      have e2 : selF ([91, 92, 93, 94, 95, 96, 146, 147, 148, 149, 150, 151, 152].map fun k => (k, .lit 0)) (.lit 400) 93 = .lit 0 := rfl
      rw [h, e1, e2]
      clear e1 e2
      refine ⟨?_, rfl⟩
      simp only [can32, pickE32, wholeE32, rootP32, nan32, x32, y32, o32, sign32, tr, bi, no, un, Flt.u32, Flt.i32, v, den_iteP, den_unP, E.prop]; simp only [E.den, Bi.den, Un.den]
      rw [iteP_neg (by decide), iteP_neg (by decide), iteP_pos (by decide)]
      all_goals exact rfl
    · have h : u 0 = 94 := h
      have e1 : selF binT32L (.lit 0) 94 = tr (bi .eq o32 (.lit 2)) := rfl
      have e2 : selF ([91, 92, 93, 94, 95, 96, 146, 147, 148, 149, 150, 151, 152].map fun k => (k, .lit 0)) (.lit 400) 94 = .lit 0 := rfl
      rw [h, e1, e2]
      clear e1 e2
      refine ⟨?_, rfl⟩
      simp only [can32, pickE32, wholeE32, rootP32, nan32, x32, y32, o32, sign32, tr, bi, no, un, Flt.u32, Flt.i32, v, den_iteP, den_unP, E.prop]; simp only [E.den, Bi.den, Un.den]
      rw [iteP_neg (by decide), iteP_neg (by decide), iteP_neg (by decide), iteP_pos (by decide)]
      all_goals exact rfl
    · have h : u 0 = 95 := h
      have e1 : selF binT32L (.lit 0) 95 = tr (bi .le o32 (.lit 1)) := rfl
      have e2 : selF ([91, 92, 93, 94, 95, 96, 146, 147, 148, 149, 150, 151, 152].map fun k => (k, .lit 0)) (.lit 400) 95 = .lit 0 := rfl
      rw [h, e1, e2]
      clear e1 e2
      refine ⟨?_, rfl⟩
      simp only [can32, pickE32, wholeE32, rootP32, nan32, x32, y32, o32, sign32, tr, bi, no, un, Flt.u32, Flt.i32, v, den_iteP, den_unP, E.prop]; simp only [E.den, Bi.den, Un.den]
      rw [iteP_neg (by decide), iteP_neg (by decide), iteP_neg (by decide), iteP_neg (by decide), iteP_pos (by decide)]
      all_goals exact rfl
    · have h : u 0 = 96 := h
      have e1 : selF binT32L (.lit 0) 96 = tr (bi .or (bi .eq o32 (.lit 2)) (bi .eq o32 (.lit 0))) := rfl
      have e2 : selF ([91, 92, 93, 94, 95, 96, 146, 147, 148, 149, 150, 151, 152].map fun k => (k, .lit 0)) (.lit 400) 96 = .lit 0 := rfl
      rw [h, e1, e2]
      clear e1 e2
      refine ⟨?_, rfl⟩
      simp only [can32, pickE32, wholeE32, rootP32, nan32, x32, y32, o32, sign32, tr, bi, no, un, Flt.u32, Flt.i32, v, den_iteP, den_unP, E.prop]; simp only [E.den, Bi.den, Un.den]
      rw [iteP_neg (by decide), iteP_neg (by decide), iteP_neg (by decide), iteP_neg (by decide), iteP_neg (by decide)]
      all_goals exact rfl
  · intro h1 h2 h3 h4
    have hc : u 0 = 146 ∨ u 0 = 147 ∨ u 0 = 148 ∨ u 0 = 149 ∨ u 0 = 150 ∨ u 0 = 151 ∨ u 0 = 152 := by omega
    rcases hc with h | h | h | h | h | h | h
    · have h : u 0 = 146 := h
      have e1 : selF binT32L (.lit 0) 146 = can32 (bi (.far .add .f32) x32 y32) := rfl
      have e2 : selF ([91, 92, 93, 94, 95, 96, 146, 147, 148, 149, 150, 151, 152].map fun k => (k, .lit 0)) (.lit 400) 146 = .lit 0 := rfl
      rw [h, e1, e2]
      clear e1 e2
      refine ⟨?_, rfl⟩
      simp only [can32, pickE32, wholeE32, rootP32, nan32, x32, y32, o32, sign32, tr, bi, no, un, Flt.u32, Flt.i32, v, den_iteP, den_unP, E.prop]; simp only [E.den, Bi.den, Un.den]
      rw [iteP_pos (by decide)]
      all_goals exact rfl
    · have h : u 0 = 147 := h
      have e1 : selF binT32L (.lit 0) 147 = can32 (bi (.far .sub .f32) x32 y32) := rfl
      have e2 : selF ([91, 92, 93, 94, 95, 96, 146, 147, 148, 149, 150, 151, 152].map fun k => (k, .lit 0)) (.lit 400) 147 = .lit 0 := rfl
      rw [h, e1, e2]
      clear e1 e2
      refine ⟨?_, rfl⟩
      simp only [can32, pickE32, wholeE32, rootP32, nan32, x32, y32, o32, sign32, tr, bi, no, un, Flt.u32, Flt.i32, v, den_iteP, den_unP, E.prop]; simp only [E.den, Bi.den, Un.den]
      rw [iteP_neg (by decide), iteP_pos (by decide)]
      all_goals exact rfl
    · have h : u 0 = 148 := h
      have e1 : selF binT32L (.lit 0) 148 = can32 (bi (.far .mul .f32) x32 y32) := rfl
      have e2 : selF ([91, 92, 93, 94, 95, 96, 146, 147, 148, 149, 150, 151, 152].map fun k => (k, .lit 0)) (.lit 400) 148 = .lit 0 := rfl
      rw [h, e1, e2]
      clear e1 e2
      refine ⟨?_, rfl⟩
      simp only [can32, pickE32, wholeE32, rootP32, nan32, x32, y32, o32, sign32, tr, bi, no, un, Flt.u32, Flt.i32, v, den_iteP, den_unP, E.prop]; simp only [E.den, Bi.den, Un.den]
      rw [iteP_neg (by decide), iteP_neg (by decide), iteP_pos (by decide)]
      all_goals exact rfl
    · have h : u 0 = 149 := h
      have e1 : selF binT32L (.lit 0) 149 = can32 (bi (.far .quo .f32) x32 y32) := rfl
      have e2 : selF ([91, 92, 93, 94, 95, 96, 146, 147, 148, 149, 150, 151, 152].map fun k => (k, .lit 0)) (.lit 400) 149 = .lit 0 := rfl
      rw [h, e1, e2]
      clear e1 e2
      refine ⟨?_, rfl⟩
      simp only [can32, pickE32, wholeE32, rootP32, nan32, x32, y32, o32, sign32, tr, bi, no, un, Flt.u32, Flt.i32, v, den_iteP, den_unP, E.prop]; simp only [E.den, Bi.den, Un.den]
      rw [iteP_neg (by decide), iteP_neg (by decide), iteP_neg (by decide), iteP_pos (by decide)]
      all_goals exact rfl
    · have h : u 0 = 150 := h
      have e1 : selF binT32L (.lit 0) 150 = pickE32 true := rfl
      have e2 : selF ([91, 92, 93, 94, 95, 96, 146, 147, 148, 149, 150, 151, 152].map fun k => (k, .lit 0)) (.lit 400) 150 = .lit 0 := rfl
      rw [h, e1, e2]
      clear e1 e2
      refine ⟨?_, rfl⟩
      simp only [can32, pickE32, wholeE32, rootP32, nan32, x32, y32, o32, sign32, tr, bi, no, un, Flt.u32, Flt.i32, v, den_iteP, den_unP, E.prop]; simp only [E.den, Bi.den, Un.den]
      rw [iteP_neg (by decide), iteP_neg (by decide), iteP_neg (by decide), iteP_neg (by decide), iteP_pos (by decide)]
      all_goals exact rfl
    · have h : u 0 = 151 := h
      have e1 : selF binT32L (.lit 0) 151 = pickE32 false := rfl
      have e2 : selF ([91, 92, 93, 94, 95, 96, 146, 147, 148, 149, 150, 151, 152].map fun k => (k, .lit 0)) (.lit 400) 151 = .lit 0 := rfl
      rw [h, e1, e2]
      clear e1 e2
      refine ⟨?_, rfl⟩
      simp only [can32, pickE32, wholeE32, rootP32, nan32, x32, y32, o32, sign32, tr, bi, no, un, Flt.u32, Flt.i32, v, den_iteP, den_unP, E.prop]; simp only [E.den, Bi.den, Un.den]
      rw [iteP_neg (by decide), iteP_neg (by decide), iteP_neg (by decide), iteP_neg (by decide), iteP_neg (by decide), iteP_pos (by decide)]
      all_goals exact rfl
    · have h : u 0 = 152 := h
      have e1 : selF binT32L (.lit 0) 152 = u32 (bi (.bits .or .i64) (bi (.bits .andNot .i64) (v 1) sign32) (bi (.bits .and .i64) (v 2) sign32)) := rfl
      have e2 : selF ([91, 92, 93, 94, 95, 96, 146, 147, 148, 149, 150, 151, 152].map fun k => (k, .lit 0)) (.lit 400) 152 = .lit 0 := rfl
      rw [h, e1, e2]
      clear e1 e2
      refine ⟨?_, rfl⟩
      simp only [can32, pickE32, wholeE32, rootP32, nan32, x32, y32, o32, sign32, tr, bi, no, un, Flt.u32, Flt.i32, v, den_iteP, den_unP, E.prop]; simp only [E.den, Bi.den, Un.den]
      rw [iteP_neg (by decide), iteP_neg (by decide), iteP_neg (by decide), iteP_neg (by decide), iteP_neg (by decide), iteP_neg (by decide)]
      all_goals exact copy_s (u 1) (u 2)
  · intro h1 h2 h3 h4
    rw [selF_none binT32L _ _ (by simp [binT32L]; omega), selF_none ([91, 92, 93, 94, 95, 96, 146, 147, 148, 149, 150, 151, 152].map fun k => (k, .lit 0)) _ _ (by simp; omega)]
    exact ⟨rfl, rfl⟩
  · intro h1 h2 h3
    rw [selF_none binT32L _ _ (by simp [binT32L]; omega), selF_none ([91, 92, 93, 94, 95, 96, 146, 147, 148, 149, 150, 151, 152].map fun k => (k, .lit 0)) _ _ (by simp; omega)]
    exact ⟨rfl, rfl⟩
  · intro h1
    rw [selF_none binT32L _ _ (by simp [binT32L]; omega), selF_none ([91, 92, 93, 94, 95, 96, 146, 147, 148, 149, 150, 151, 152].map fun k => (k, .lit 0)) _ _ (by simp; omega)]
    exact ⟨rfl, rfl⟩
theorem unQ_plain (u : Nat → Int) (hk : KindOk u 0 unQ32.ks) (hp : pcOk ⟨u, fnF⟩ unQ32.pre) : Keeps ⟨u, fnF⟩ unQ32.res unQR := by
  have hx : 0 ≤ IntKind.u32.wrap (u 1) ∧ IntKind.u32.wrap (u 1) ≤ 4294967295 := by rw [u32_w]; omega
  have B := PlainRefE3.can_rd hx
  simp only [unQ32, unQR, rootP32, nan32, x32, bi, un, Flt.u32, v, Keeps, chain, unOne2, SameL, den_iteP, den_unP, E.prop, true_and, and_true]
  simp only [E.den, Bi.den, Un.den]
  refine ⟨?_, ?_, ?_, ?_, ?_⟩
  · intro h0 h1 h2 h3
    exact iteP_of_neg h1 (iteP_of_neg h2 rfl)
  · intro h0 h1 h2 h3
    rw [iteP_neg h1, iteP_neg h2] at B
    omega
  · intro h0 h1 h2 h3
    rw [iteP_neg h1, iteP_neg h2] at B
    omega
  · intro h0 h1 h2
    exact iteP_of_neg h1 (iteP_of_pos h2 rfl)
  · intro h0 h1
    exact iteP_of_pos h1 rfl
end Go.Proofs.Ytnodelimomljbaa.PlainRefG3

/- The ways of the code through numbers, and that the code takes no other. No condition. -/
namespace Go.Proofs.Ytnodelimomljbaa.RunOpU
open Go Go.Sx Go.Sx.Flt

def unR : List Leaf := [
  ([(.bin .eq (.bin .add (.var 0) (.lit (-139))) (.lit 0)), (.un .bnot (.bin .eq (.un (.fconv .f32 .f64) (.un (.wrap .u32) (.var 1))) (.lit (-1)))), (.un .bnot (.bin .eq (.var 0) (.lit 145)))], (.tup [(.int .i64 (.un (.wrap .u32) (.bin (.bits .andNot .i64) (.var 1) (.lit 2147483648)))), (.int .i64 (.lit 0))])),
  ([(.bin .eq (.un (.wrap .i64) (.bin .add (.var 0) (.lit (-139)))) (.lit 1)), (.un .bnot (.bin .eq (.bin .add (.var 0) (.lit (-139))) (.lit 0))), (.un .bnot (.bin .eq (.un (.fconv .f32 .f64) (.un (.wrap .u32) (.var 1))) (.lit (-1)))), (.un .bnot (.bin .eq (.var 0) (.lit 145)))], (.tup [(.int .i64 (.un (.wrap .u32) (.bin (.bits .xor .i64) (.var 1) (.lit 2147483648)))), (.int .i64 (.lit 0))])),
  ([(.un .bnot (.bin .eq (.un (.fconv .f64 .f32) (.un (.fwhole .up) (.un (.fconv .f32 .f64) (.un (.wrap .u32) (.var 1))))) (.lit (-2)))), (.bin .eq (.un (.wrap .i64) (.bin .add (.var 0) (.lit (-139)))) (.lit 2)), (.un .bnot (.bin .eq (.un (.wrap .i64) (.bin .add (.var 0) (.lit (-139)))) (.lit 1))), (.un .bnot (.bin .eq (.bin .add (.var 0) (.lit (-139))) (.lit 0))), (.un .bnot (.bin .eq (.un (.fconv .f32 .f64) (.un (.wrap .u32) (.var 1))) (.lit (-1)))), (.un .bnot (.bin .eq (.var 0) (.lit 145)))], (.tup [(.int .i64 (.un (.fconv .f64 .f32) (.un (.fwhole .up) (.un (.fconv .f32 .f64) (.un (.wrap .u32) (.var 1)))))), (.int .i64 (.lit 0))])),
  ([(.un .bnot (.bin .eq (.bin (.ford .f32) (.var 2) (.var 2)) (.lit 0))), (.bin .eq (.un (.fconv .f64 .f32) (.un (.fwhole .up) (.un (.fconv .f32 .f64) (.un (.wrap .u32) (.var 1))))) (.lit (-2))), (.bin .eq (.un (.wrap .i64) (.bin .add (.var 0) (.lit (-139)))) (.lit 2)), (.un .bnot (.bin .eq (.un (.wrap .i64) (.bin .add (.var 0) (.lit (-139)))) (.lit 1))), (.un .bnot (.bin .eq (.bin .add (.var 0) (.lit (-139))) (.lit 0))), (.un .bnot (.bin .eq (.un (.fconv .f32 .f64) (.un (.wrap .u32) (.var 1))) (.lit (-1)))), (.un .bnot (.bin .eq (.var 0) (.lit 145)))], (.tup [(.int .i64 (.lit 2143289344)), (.int .i64 (.lit 0))])),
  ([(.bin .eq (.bin (.ford .f32) (.var 2) (.var 2)) (.lit 0)), (.bin .eq (.un (.fconv .f64 .f32) (.un (.fwhole .up) (.un (.fconv .f32 .f64) (.un (.wrap .u32) (.var 1))))) (.lit (-2))), (.bin .eq (.un (.wrap .i64) (.bin .add (.var 0) (.lit (-139)))) (.lit 2)), (.un .bnot (.bin .eq (.un (.wrap .i64) (.bin .add (.var 0) (.lit (-139)))) (.lit 1))), (.un .bnot (.bin .eq (.bin .add (.var 0) (.lit (-139))) (.lit 0))), (.un .bnot (.bin .eq (.un (.fconv .f32 .f64) (.un (.wrap .u32) (.var 1))) (.lit (-1)))), (.un .bnot (.bin .eq (.var 0) (.lit 145)))], (.tup [(.int .i64 (.var 2)), (.int .i64 (.lit 0))])),
  ([(.un .bnot (.bin .eq (.un (.fconv .f64 .f32) (.un (.fwhole .down) (.un (.fconv .f32 .f64) (.un (.wrap .u32) (.var 1))))) (.lit (-2)))), (.bin .eq (.un (.wrap .i64) (.bin .add (.var 0) (.lit (-139)))) (.lit 3)), (.un .bnot (.bin .eq (.un (.wrap .i64) (.bin .add (.var 0) (.lit (-139)))) (.lit 2))), (.un .bnot (.bin .eq (.un (.wrap .i64) (.bin .add (.var 0) (.lit (-139)))) (.lit 1))), (.un .bnot (.bin .eq (.bin .add (.var 0) (.lit (-139))) (.lit 0))), (.un .bnot (.bin .eq (.un (.fconv .f32 .f64) (.un (.wrap .u32) (.var 1))) (.lit (-1)))), (.un .bnot (.bin .eq (.var 0) (.lit 145)))], (.tup [(.int .i64 (.un (.fconv .f64 .f32) (.un (.fwhole .down) (.un (.fconv .f32 .f64) (.un (.wrap .u32) (.var 1)))))), (.int .i64 (.lit 0))])),
  ([(.un .bnot (.bin .eq (.bin (.ford .f32) (.var 2) (.var 2)) (.lit 0))), (.bin .eq (.un (.fconv .f64 .f32) (.un (.fwhole .down) (.un (.fconv .f32 .f64) (.un (.wrap .u32) (.var 1))))) (.lit (-2))), (.bin .eq (.un (.wrap .i64) (.bin .add (.var 0) (.lit (-139)))) (.lit 3)), (.un .bnot (.bin .eq (.un (.wrap .i64) (.bin .add (.var 0) (.lit (-139)))) (.lit 2))), (.un .bnot (.bin .eq (.un (.wrap .i64) (.bin .add (.var 0) (.lit (-139)))) (.lit 1))), (.un .bnot (.bin .eq (.bin .add (.var 0) (.lit (-139))) (.lit 0))), (.un .bnot (.bin .eq (.un (.fconv .f32 .f64) (.un (.wrap .u32) (.var 1))) (.lit (-1)))), (.un .bnot (.bin .eq (.var 0) (.lit 145)))], (.tup [(.int .i64 (.lit 2143289344)), (.int .i64 (.lit 0))])),
  ([(.bin .eq (.bin (.ford .f32) (.var 2) (.var 2)) (.lit 0)), (.bin .eq (.un (.fconv .f64 .f32) (.un (.fwhole .down) (.un (.fconv .f32 .f64) (.un (.wrap .u32) (.var 1))))) (.lit (-2))), (.bin .eq (.un (.wrap .i64) (.bin .add (.var 0) (.lit (-139)))) (.lit 3)), (.un .bnot (.bin .eq (.un (.wrap .i64) (.bin .add (.var 0) (.lit (-139)))) (.lit 2))), (.un .bnot (.bin .eq (.un (.wrap .i64) (.bin .add (.var 0) (.lit (-139)))) (.lit 1))), (.un .bnot (.bin .eq (.bin .add (.var 0) (.lit (-139))) (.lit 0))), (.un .bnot (.bin .eq (.un (.fconv .f32 .f64) (.un (.wrap .u32) (.var 1))) (.lit (-1)))), (.un .bnot (.bin .eq (.var 0) (.lit 145)))], (.tup [(.int .i64 (.var 2)), (.int .i64 (.lit 0))])),
  ([(.un .bnot (.bin .eq (.un (.fconv .f64 .f32) (.un (.fwhole .zero) (.un (.fconv .f32 .f64) (.un (.wrap .u32) (.var 1))))) (.lit (-2)))), (.bin .eq (.un (.wrap .i64) (.bin .add (.var 0) (.lit (-139)))) (.lit 4)), (.un .bnot (.bin .eq (.un (.wrap .i64) (.bin .add (.var 0) (.lit (-139)))) (.lit 3))), (.un .bnot (.bin .eq (.un (.wrap .i64) (.bin .add (.var 0) (.lit (-139)))) (.lit 2))), (.un .bnot (.bin .eq (.un (.wrap .i64) (.bin .add (.var 0) (.lit (-139)))) (.lit 1))), (.un .bnot (.bin .eq (.bin .add (.var 0) (.lit (-139))) (.lit 0))), (.un .bnot (.bin .eq (.un (.fconv .f32 .f64) (.un (.wrap .u32) (.var 1))) (.lit (-1)))), (.un .bnot (.bin .eq (.var 0) (.lit 145)))], (.tup [(.int .i64 (.un (.fconv .f64 .f32) (.un (.fwhole .zero) (.un (.fconv .f32 .f64) (.un (.wrap .u32) (.var 1)))))), (.int .i64 (.lit 0))])),
  ([(.un .bnot (.bin .eq (.bin (.ford .f32) (.var 2) (.var 2)) (.lit 0))), (.bin .eq (.un (.fconv .f64 .f32) (.un (.fwhole .zero) (.un (.fconv .f32 .f64) (.un (.wrap .u32) (.var 1))))) (.lit (-2))), (.bin .eq (.un (.wrap .i64) (.bin .add (.var 0) (.lit (-139)))) (.lit 4)), (.un .bnot (.bin .eq (.un (.wrap .i64) (.bin .add (.var 0) (.lit (-139)))) (.lit 3))), (.un .bnot (.bin .eq (.un (.wrap .i64) (.bin .add (.var 0) (.lit (-139)))) (.lit 2))), (.un .bnot (.bin .eq (.un (.wrap .i64) (.bin .add (.var 0) (.lit (-139)))) (.lit 1))), (.un .bnot (.bin .eq (.bin .add (.var 0) (.lit (-139))) (.lit 0))), (.un .bnot (.bin .eq (.un (.fconv .f32 .f64) (.un (.wrap .u32) (.var 1))) (.lit (-1)))), (.un .bnot (.bin .eq (.var 0) (.lit 145)))], (.tup [(.int .i64 (.lit 2143289344)), (.int .i64 (.lit 0))])),
  ([(.bin .eq (.bin (.ford .f32) (.var 2) (.var 2)) (.lit 0)), (.bin .eq (.un (.fconv .f64 .f32) (.un (.fwhole .zero) (.un (.fconv .f32 .f64) (.un (.wrap .u32) (.var 1))))) (.lit (-2))), (.bin .eq (.un (.wrap .i64) (.bin .add (.var 0) (.lit (-139)))) (.lit 4)), (.un .bnot (.bin .eq (.un (.wrap .i64) (.bin .add (.var 0) (.lit (-139)))) (.lit 3))), (.un .bnot (.bin .eq (.un (.wrap .i64) (.bin .add (.var 0) (.lit (-139)))) (.lit 2))), (.un .bnot (.bin .eq (.un (.wrap .i64) (.bin .add (.var 0) (.lit (-139)))) (.lit 1))), (.un .bnot (.bin .eq (.bin .add (.var 0) (.lit (-139))) (.lit 0))), (.un .bnot (.bin .eq (.un (.fconv .f32 .f64) (.un (.wrap .u32) (.var 1))) (.lit (-1)))), (.un .bnot (.bin .eq (.var 0) (.lit 145)))], (.tup [(.int .i64 (.var 2)), (.int .i64 (.lit 0))])),
  ([(.un .bnot (.bin .eq (.un (.fconv .f64 .f32) (.un (.fwhole .even) (.un (.fconv .f32 .f64) (.un (.wrap .u32) (.var 1))))) (.lit (-2)))), (.bin .eq (.un (.wrap .i64) (.bin .add (.var 0) (.lit (-139)))) (.lit 5)), (.un .bnot (.bin .eq (.un (.wrap .i64) (.bin .add (.var 0) (.lit (-139)))) (.lit 4))), (.un .bnot (.bin .eq (.un (.wrap .i64) (.bin .add (.var 0) (.lit (-139)))) (.lit 3))), (.un .bnot (.bin .eq (.un (.wrap .i64) (.bin .add (.var 0) (.lit (-139)))) (.lit 2))), (.un .bnot (.bin .eq (.un (.wrap .i64) (.bin .add (.var 0) (.lit (-139)))) (.lit 1))), (.un .bnot (.bin .eq (.bin .add (.var 0) (.lit (-139))) (.lit 0))), (.un .bnot (.bin .eq (.un (.fconv .f32 .f64) (.un (.wrap .u32) (.var 1))) (.lit (-1)))), (.un .bnot (.bin .eq (.var 0) (.lit 145)))], (.tup [(.int .i64 (.un (.fconv .f64 .f32) (.un (.fwhole .even) (.un (.fconv .f32 .f64) (.un (.wrap .u32) (.var 1)))))), (.int .i64 (.lit 0))])),
  ([(.un .bnot (.bin .eq (.bin (.ford .f32) (.var 2) (.var 2)) (.lit 0))), (.bin .eq (.un (.fconv .f64 .f32) (.un (.fwhole .even) (.un (.fconv .f32 .f64) (.un (.wrap .u32) (.var 1))))) (.lit (-2))), (.bin .eq (.un (.wrap .i64) (.bin .add (.var 0) (.lit (-139)))) (.lit 5)), (.un .bnot (.bin .eq (.un (.wrap .i64) (.bin .add (.var 0) (.lit (-139)))) (.lit 4))), (.un .bnot (.bin .eq (.un (.wrap .i64) (.bin .add (.var 0) (.lit (-139)))) (.lit 3))), (.un .bnot (.bin .eq (.un (.wrap .i64) (.bin .add (.var 0) (.lit (-139)))) (.lit 2))), (.un .bnot (.bin .eq (.un (.wrap .i64) (.bin .add (.var 0) (.lit (-139)))) (.lit 1))), (.un .bnot (.bin .eq (.bin .add (.var 0) (.lit (-139))) (.lit 0))), (.un .bnot (.bin .eq (.un (.fconv .f32 .f64) (.un (.wrap .u32) (.var 1))) (.lit (-1)))), (.un .bnot (.bin .eq (.var 0) (.lit 145)))], (.tup [(.int .i64 (.lit 2143289344)), (.int .i64 (.lit 0))])),
  ([(.bin .eq (.bin (.ford .f32) (.var 2) (.var 2)) (.lit 0)), (.bin .eq (.un (.fconv .f64 .f32) (.un (.fwhole .even) (.un (.fconv .f32 .f64) (.un (.wrap .u32) (.var 1))))) (.lit (-2))), (.bin .eq (.un (.wrap .i64) (.bin .add (.var 0) (.lit (-139)))) (.lit 5)), (.un .bnot (.bin .eq (.un (.wrap .i64) (.bin .add (.var 0) (.lit (-139)))) (.lit 4))), (.un .bnot (.bin .eq (.un (.wrap .i64) (.bin .add (.var 0) (.lit (-139)))) (.lit 3))), (.un .bnot (.bin .eq (.un (.wrap .i64) (.bin .add (.var 0) (.lit (-139)))) (.lit 2))), (.un .bnot (.bin .eq (.un (.wrap .i64) (.bin .add (.var 0) (.lit (-139)))) (.lit 1))), (.un .bnot (.bin .eq (.bin .add (.var 0) (.lit (-139))) (.lit 0))), (.un .bnot (.bin .eq (.un (.fconv .f32 .f64) (.un (.wrap .u32) (.var 1))) (.lit (-1)))), (.un .bnot (.bin .eq (.var 0) (.lit 145)))], (.tup [(.int .i64 (.var 2)), (.int .i64 (.lit 0))])),
  ([(.un .bnot (.bin .eq (.un (.fconv .f64 .f32) (.un .fsqrt (.un (.fconv .f32 .f64) (.un (.wrap .u32) (.var 1))))) (.lit (-2)))), (.un .bnot (.bin .eq (.un .fsqrt (.un (.fconv .f32 .f64) (.un (.wrap .u32) (.var 1)))) (.lit (-1)))), (.bin .eq (.un (.wrap .i64) (.bin .add (.var 0) (.lit (-139)))) (.lit 6)), (.un .bnot (.bin .eq (.un (.wrap .i64) (.bin .add (.var 0) (.lit (-139)))) (.lit 5))), (.un .bnot (.bin .eq (.un (.wrap .i64) (.bin .add (.var 0) (.lit (-139)))) (.lit 4))), (.un .bnot (.bin .eq (.un (.wrap .i64) (.bin .add (.var 0) (.lit (-139)))) (.lit 3))), (.un .bnot (.bin .eq (.un (.wrap .i64) (.bin .add (.var 0) (.lit (-139)))) (.lit 2))), (.un .bnot (.bin .eq (.un (.wrap .i64) (.bin .add (.var 0) (.lit (-139)))) (.lit 1))), (.un .bnot (.bin .eq (.bin .add (.var 0) (.lit (-139))) (.lit 0))), (.un .bnot (.bin .eq (.un (.fconv .f32 .f64) (.un (.wrap .u32) (.var 1))) (.lit (-1)))), (.un .bnot (.bin .eq (.var 0) (.lit 145)))], (.tup [(.int .i64 (.un (.fconv .f64 .f32) (.un .fsqrt (.un (.fconv .f32 .f64) (.un (.wrap .u32) (.var 1)))))), (.int .i64 (.lit 0))])),
  ([(.un .bnot (.bin .eq (.bin (.ford .f32) (.var 2) (.var 2)) (.lit 0))), (.bin .eq (.un (.fconv .f64 .f32) (.un .fsqrt (.un (.fconv .f32 .f64) (.un (.wrap .u32) (.var 1))))) (.lit (-2))), (.un .bnot (.bin .eq (.un .fsqrt (.un (.fconv .f32 .f64) (.un (.wrap .u32) (.var 1)))) (.lit (-1)))), (.bin .eq (.un (.wrap .i64) (.bin .add (.var 0) (.lit (-139)))) (.lit 6)), (.un .bnot (.bin .eq (.un (.wrap .i64) (.bin .add (.var 0) (.lit (-139)))) (.lit 5))), (.un .bnot (.bin .eq (.un (.wrap .i64) (.bin .add (.var 0) (.lit (-139)))) (.lit 4))), (.un .bnot (.bin .eq (.un (.wrap .i64) (.bin .add (.var 0) (.lit (-139)))) (.lit 3))), (.un .bnot (.bin .eq (.un (.wrap .i64) (.bin .add (.var 0) (.lit (-139)))) (.lit 2))), (.un .bnot (.bin .eq (.un (.wrap .i64) (.bin .add (.var 0) (.lit (-139)))) (.lit 1))), (.un .bnot (.bin .eq (.bin .add (.var 0) (.lit (-139))) (.lit 0))), (.un .bnot (.bin .eq (.un (.fconv .f32 .f64) (.un (.wrap .u32) (.var 1))) (.lit (-1)))), (.un .bnot (.bin .eq (.var 0) (.lit 145)))], (.tup [(.int .i64 (.lit 2143289344)), (.int .i64 (.lit 0))])),
  ([(.bin .eq (.bin (.ford .f32) (.var 2) (.var 2)) (.lit 0)), (.bin .eq (.un (.fconv .f64 .f32) (.un .fsqrt (.un (.fconv .f32 .f64) (.un (.wrap .u32) (.var 1))))) (.lit (-2))), (.un .bnot (.bin .eq (.un .fsqrt (.un (.fconv .f32 .f64) (.un (.wrap .u32) (.var 1)))) (.lit (-1)))), (.bin .eq (.un (.wrap .i64) (.bin .add (.var 0) (.lit (-139)))) (.lit 6)), (.un .bnot (.bin .eq (.un (.wrap .i64) (.bin .add (.var 0) (.lit (-139)))) (.lit 5))), (.un .bnot (.bin .eq (.un (.wrap .i64) (.bin .add (.var 0) (.lit (-139)))) (.lit 4))), (.un .bnot (.bin .eq (.un (.wrap .i64) (.bin .add (.var 0) (.lit (-139)))) (.lit 3))), (.un .bnot (.bin .eq (.un (.wrap .i64) (.bin .add (.var 0) (.lit (-139)))) (.lit 2))), (.un .bnot (.bin .eq (.un (.wrap .i64) (.bin .add (.var 0) (.lit (-139)))) (.lit 1))), (.un .bnot (.bin .eq (.bin .add (.var 0) (.lit (-139))) (.lit 0))), (.un .bnot (.bin .eq (.un (.fconv .f32 .f64) (.un (.wrap .u32) (.var 1))) (.lit (-1)))), (.un .bnot (.bin .eq (.var 0) (.lit 145)))], (.tup [(.int .i64 (.var 2)), (.int .i64 (.lit 0))])),
  ([(.bin .eq (.un .fsqrt (.un (.fconv .f32 .f64) (.un (.wrap .u32) (.var 1)))) (.lit (-1))), (.bin .eq (.un (.wrap .i64) (.bin .add (.var 0) (.lit (-139)))) (.lit 6)), (.un .bnot (.bin .eq (.un (.wrap .i64) (.bin .add (.var 0) (.lit (-139)))) (.lit 5))), (.un .bnot (.bin .eq (.un (.wrap .i64) (.bin .add (.var 0) (.lit (-139)))) (.lit 4))), (.un .bnot (.bin .eq (.un (.wrap .i64) (.bin .add (.var 0) (.lit (-139)))) (.lit 3))), (.un .bnot (.bin .eq (.un (.wrap .i64) (.bin .add (.var 0) (.lit (-139)))) (.lit 2))), (.un .bnot (.bin .eq (.un (.wrap .i64) (.bin .add (.var 0) (.lit (-139)))) (.lit 1))), (.un .bnot (.bin .eq (.bin .add (.var 0) (.lit (-139))) (.lit 0))), (.un .bnot (.bin .eq (.un (.fconv .f32 .f64) (.un (.wrap .u32) (.var 1))) (.lit (-1)))), (.un .bnot (.bin .eq (.var 0) (.lit 145)))], (.tup [(.int .i64 (.lit 2143289344)), (.int .i64 (.lit 0))])),
  ([(.un .bnot (.bin .eq (.un (.wrap .i64) (.bin .add (.var 0) (.lit (-139)))) (.lit 6))), (.un .bnot (.bin .eq (.un (.wrap .i64) (.bin .add (.var 0) (.lit (-139)))) (.lit 5))), (.un .bnot (.bin .eq (.un (.wrap .i64) (.bin .add (.var 0) (.lit (-139)))) (.lit 4))), (.un .bnot (.bin .eq (.un (.wrap .i64) (.bin .add (.var 0) (.lit (-139)))) (.lit 3))), (.un .bnot (.bin .eq (.un (.wrap .i64) (.bin .add (.var 0) (.lit (-139)))) (.lit 2))), (.un .bnot (.bin .eq (.un (.wrap .i64) (.bin .add (.var 0) (.lit (-139)))) (.lit 1))), (.un .bnot (.bin .eq (.bin .add (.var 0) (.lit (-139))) (.lit 0))), (.un .bnot (.bin .eq (.un (.fconv .f32 .f64) (.un (.wrap .u32) (.var 1))) (.lit (-1)))), (.un .bnot (.bin .eq (.var 0) (.lit 145)))], (.tup [(.int .i64 (.lit 0)), (.int .i64 (.lit 400))])),
  ([(.bin .eq (.bin .add (.var 0) (.lit (-139))) (.lit 0)), (.bin .eq (.un (.fconv .f32 .f64) (.un (.wrap .u32) (.var 1))) (.lit (-1))), (.un .bnot (.bin .eq (.var 0) (.lit 145)))], (.tup [(.int .i64 (.un (.wrap .u32) (.bin (.bits .andNot .i64) (.var 1) (.lit 2147483648)))), (.int .i64 (.lit 0))])),
  ([(.bin .eq (.un (.wrap .i64) (.bin .add (.var 0) (.lit (-139)))) (.lit 1)), (.un .bnot (.bin .eq (.bin .add (.var 0) (.lit (-139))) (.lit 0))), (.bin .eq (.un (.fconv .f32 .f64) (.un (.wrap .u32) (.var 1))) (.lit (-1))), (.un .bnot (.bin .eq (.var 0) (.lit 145)))], (.tup [(.int .i64 (.un (.wrap .u32) (.bin (.bits .xor .i64) (.var 1) (.lit 2147483648)))), (.int .i64 (.lit 0))])),
  ([(.bin .eq (.un (.wrap .i64) (.bin .add (.var 0) (.lit (-139)))) (.lit 2)), (.un .bnot (.bin .eq (.un (.wrap .i64) (.bin .add (.var 0) (.lit (-139)))) (.lit 1))), (.un .bnot (.bin .eq (.bin .add (.var 0) (.lit (-139))) (.lit 0))), (.bin .eq (.un (.fconv .f32 .f64) (.un (.wrap .u32) (.var 1))) (.lit (-1))), (.un .bnot (.bin .eq (.var 0) (.lit 145)))], (.tup [(.int .i64 (.lit 2143289344)), (.int .i64 (.lit 0))])),
  ([(.bin .eq (.un (.wrap .i64) (.bin .add (.var 0) (.lit (-139)))) (.lit 3)), (.un .bnot (.bin .eq (.un (.wrap .i64) (.bin .add (.var 0) (.lit (-139)))) (.lit 2))), (.un .bnot (.bin .eq (.un (.wrap .i64) (.bin .add (.var 0) (.lit (-139)))) (.lit 1))), (.un .bnot (.bin .eq (.bin .add (.var 0) (.lit (-139))) (.lit 0))), (.bin .eq (.un (.fconv .f32 .f64) (.un (.wrap .u32) (.var 1))) (.lit (-1))), (.un .bnot (.bin .eq (.var 0) (.lit 145)))], (.tup [(.int .i64 (.lit 2143289344)), (.int .i64 (.lit 0))])),
  ([(.bin .eq (.un (.wrap .i64) (.bin .add (.var 0) (.lit (-139)))) (.lit 4)), (.un .bnot (.bin .eq (.un (.wrap .i64) (.bin .add (.var 0) (.lit (-139)))) (.lit 3))), (.un .bnot (.bin .eq (.un (.wrap .i64) (.bin .add (.var 0) (.lit (-139)))) (.lit 2))), (.un .bnot (.bin .eq (.un (.wrap .i64) (.bin .add (.var 0) (.lit (-139)))) (.lit 1))), (.un .bnot (.bin .eq (.bin .add (.var 0) (.lit (-139))) (.lit 0))), (.bin .eq (.un (.fconv .f32 .f64) (.un (.wrap .u32) (.var 1))) (.lit (-1))), (.un .bnot (.bin .eq (.var 0) (.lit 145)))], (.tup [(.int .i64 (.lit 2143289344)), (.int .i64 (.lit 0))])),
  ([(.bin .eq (.un (.wrap .i64) (.bin .add (.var 0) (.lit (-139)))) (.lit 5)), (.un .bnot (.bin .eq (.un (.wrap .i64) (.bin .add (.var 0) (.lit (-139)))) (.lit 4))), (.un .bnot (.bin .eq (.un (.wrap .i64) (.bin .add (.var 0) (.lit (-139)))) (.lit 3))), (.un .bnot (.bin .eq (.un (.wrap .i64) (.bin .add (.var 0) (.lit (-139)))) (.lit 2))), (.un .bnot (.bin .eq (.un (.wrap .i64) (.bin .add (.var 0) (.lit (-139)))) (.lit 1))), (.un .bnot (.bin .eq (.bin .add (.var 0) (.lit (-139))) (.lit 0))), (.bin .eq (.un (.fconv .f32 .f64) (.un (.wrap .u32) (.var 1))) (.lit (-1))), (.un .bnot (.bin .eq (.var 0) (.lit 145)))], (.tup [(.int .i64 (.lit 2143289344)), (.int .i64 (.lit 0))])),
  ([(.bin .eq (.un (.wrap .i64) (.bin .add (.var 0) (.lit (-139)))) (.lit 6)), (.un .bnot (.bin .eq (.un (.wrap .i64) (.bin .add (.var 0) (.lit (-139)))) (.lit 5))), (.un .bnot (.bin .eq (.un (.wrap .i64) (.bin .add (.var 0) (.lit (-139)))) (.lit 4))), (.un .bnot (.bin .eq (.un (.wrap .i64) (.bin .add (.var 0) (.lit (-139)))) (.lit 3))), (.un .bnot (.bin .eq (.un (.wrap .i64) (.bin .add (.var 0) (.lit (-139)))) (.lit 2))), (.un .bnot (.bin .eq (.un (.wrap .i64) (.bin .add (.var 0) (.lit (-139)))) (.lit 1))), (.un .bnot (.bin .eq (.bin .add (.var 0) (.lit (-139))) (.lit 0))), (.bin .eq (.un (.fconv .f32 .f64) (.un (.wrap .u32) (.var 1))) (.lit (-1))), (.un .bnot (.bin .eq (.var 0) (.lit 145)))], (.tup [(.int .i64 (.lit 2143289344)), (.int .i64 (.lit 0))])),
  ([(.un .bnot (.bin .eq (.un (.wrap .i64) (.bin .add (.var 0) (.lit (-139)))) (.lit 6))), (.un .bnot (.bin .eq (.un (.wrap .i64) (.bin .add (.var 0) (.lit (-139)))) (.lit 5))), (.un .bnot (.bin .eq (.un (.wrap .i64) (.bin .add (.var 0) (.lit (-139)))) (.lit 4))), (.un .bnot (.bin .eq (.un (.wrap .i64) (.bin .add (.var 0) (.lit (-139)))) (.lit 3))), (.un .bnot (.bin .eq (.un (.wrap .i64) (.bin .add (.var 0) (.lit (-139)))) (.lit 2))), (.un .bnot (.bin .eq (.un (.wrap .i64) (.bin .add (.var 0) (.lit (-139)))) (.lit 1))), (.un .bnot (.bin .eq (.bin .add (.var 0) (.lit (-139))) (.lit 0))), (.bin .eq (.un (.fconv .f32 .f64) (.un (.wrap .u32) (.var 1))) (.lit (-1))), (.un .bnot (.bin .eq (.var 0) (.lit 145)))], (.tup [(.int .i64 (.lit 0)), (.int .i64 (.lit 400))]))]
set_option maxRecDepth 100000 in
theorem unRan : runOf Try.prog (xOracle xts) noLoops (bodies fns) [] 4000 unT32.f unT32.ks unT32.pre = some unR := by kernel_rfl
end Go.Proofs.Ytnodelimomljbaa.RunOpU

/- The contract of f32n.Un, in numbers alone. No condition. -/
namespace Go.Proofs.Ytnodelimomljbaa.PlainOpU
open Go Go.Sx Go.Sx.Flt Go.Proofs.Ytnodelimomljbaa.RunOpU

theorem unOne2 (a b : Option IntKind × E) (vs : List V) : unOne [a, b].length (.tup vs) = vs := rfl
theorem i64_wrap1 (n m : Int) : IntKind.i64.wrap (n + m) = (n + m + 9223372036854775808) % 18446744073709551616 - 9223372036854775808 := by
  simp only [IntKind.wrap, IntKind.bits, IntKind.signed]; simp; split <;> omega
theorem unV_den (ρ : Env) : unTV32.den ρ = (selF unT32L (.lit 0) (ρ.v 0)).den ρ := den_sel _ _ _
theorem unE_den (ρ : Env) : unTE32.den ρ = (selF ([139, 140, 141, 142, 143, 144].map fun k => (k, .lit 0)) (.lit 400) (ρ.v 0)).den ρ := den_sel _ _ _
set_option linter.unusedSimpArgs false
set_option linter.unusedVariables false
theorem un_plain (u : Nat → Int) (hk : KindOk u 0 unT32.ks) : Keeps ⟨u, fnF⟩ unT32.res unR := by
  have h0 : -9223372036854775808 ≤ u 0 ∧ u 0 ≤ 9223372036854775807 := of_kind hk.1
  simp only [unT32, unR, Keeps, chain, unOne2, SameL, E.prop, E.den, Bi.den, Un.den, true_and, and_true, unV_den, unE_den, i64_wrap1]
  refine ⟨?_, ?_, ?_, ?_, ?_, ?_, ?_, ?_, ?_, ?_, ?_, ?_, ?_, ?_, ?_, ?_, ?_, ?_, ?_, ?_, ?_, ?_, ?_, ?_, ?_, ?_, ?_⟩
  · intros
    have h : u 0 = 139 := by omega
    have e1 : selF unT32L (.lit 0) 139 = u32 (bi (.bits .andNot .i64) (v 1) sign32) := rfl
    have e2 : selF ([139, 140, 141, 142, 143, 144].map fun k => (k, .lit 0)) (.lit 400) 139 = .lit 0 := rfl
    simp only [h, e1, e2]
    clear e1 e2
    simp_all [wholeE32, nan32, x32, sign32, bi, no, un, Flt.u32, v, E.den, Bi.den, Un.den, b2i]
  · intros
    have h : u 0 = 140 := by omega
    have e1 : selF unT32L (.lit 0) 140 = u32 (bi (.bits .xor .i64) (v 1) sign32) := rfl
    have e2 : selF ([139, 140, 141, 142, 143, 144].map fun k => (k, .lit 0)) (.lit 400) 140 = .lit 0 := rfl
    simp only [h, e1, e2]
    clear e1 e2
    simp_all [wholeE32, nan32, x32, sign32, bi, no, un, Flt.u32, v, E.den, Bi.den, Un.den, b2i]
  · intros
    have h : u 0 = 141 := by omega
    have e1 : selF unT32L (.lit 0) 141 = wholeE32 .up := rfl
    have e2 : selF ([139, 140, 141, 142, 143, 144].map fun k => (k, .lit 0)) (.lit 400) 141 = .lit 0 := rfl
    simp only [h, e1, e2]
    clear e1 e2
    simp_all [wholeE32, nan32, x32, sign32, bi, no, un, Flt.u32, v, E.den, Bi.den, Un.den, b2i]
  · intros
    exact absurd (by assumption) (whole32_ne (by assumption))
  · intros
    exact absurd (by assumption) (whole32_ne (by assumption))
  · intros
    have h : u 0 = 142 := by omega
    have e1 : selF unT32L (.lit 0) 142 = wholeE32 .down := rfl
    have e2 : selF ([139, 140, 141, 142, 143, 144].map fun k => (k, .lit 0)) (.lit 400) 142 = .lit 0 := rfl
    simp only [h, e1, e2]
    clear e1 e2
    simp_all [wholeE32, nan32, x32, sign32, bi, no, un, Flt.u32, v, E.den, Bi.den, Un.den, b2i]
  · intros
    exact absurd (by assumption) (whole32_ne (by assumption))
  · intros
    exact absurd (by assumption) (whole32_ne (by assumption))
  · intros
    have h : u 0 = 143 := by omega
    have e1 : selF unT32L (.lit 0) 143 = wholeE32 .zero := rfl
    have e2 : selF ([139, 140, 141, 142, 143, 144].map fun k => (k, .lit 0)) (.lit 400) 143 = .lit 0 := rfl
    simp only [h, e1, e2]
    clear e1 e2
    simp_all [wholeE32, nan32, x32, sign32, bi, no, un, Flt.u32, v, E.den, Bi.den, Un.den, b2i]
  · intros
    exact absurd (by assumption) (whole32_ne (by assumption))
  · intros
    exact absurd (by assumption) (whole32_ne (by assumption))
  · intros
    have h : u 0 = 144 := by omega
    have e1 : selF unT32L (.lit 0) 144 = wholeE32 .even := rfl
    have e2 : selF ([139, 140, 141, 142, 143, 144].map fun k => (k, .lit 0)) (.lit 400) 144 = .lit 0 := rfl
    simp only [h, e1, e2]
    clear e1 e2
    simp_all [wholeE32, nan32, x32, sign32, bi, no, un, Flt.u32, v, E.den, Bi.den, Un.den, b2i]
  · intros
    exact absurd (by assumption) (whole32_ne (by assumption))
  · intros
    exact absurd (by assumption) (whole32_ne (by assumption))
  · intros
    exfalso; omega
  · intros
    exfalso; omega
  · intros
    exfalso; omega
  · intros
    exfalso; omega
  · intros
    rw [selF_none _ _ _ (by intro p hp; simp [unT32L] at hp; omega), selF_none _ _ _ (by intro p hp; simp at hp; omega)]
    exact ⟨rfl, rfl⟩
  · intros
    have h : u 0 = 139 := by omega
    have e1 : selF unT32L (.lit 0) 139 = u32 (bi (.bits .andNot .i64) (v 1) sign32) := rfl
    have e2 : selF ([139, 140, 141, 142, 143, 144].map fun k => (k, .lit 0)) (.lit 400) 139 = .lit 0 := rfl
    simp only [h, e1, e2]
    clear e1 e2
    simp_all [wholeE32, nan32, x32, sign32, bi, no, un, Flt.u32, v, E.den, Bi.den, Un.den, b2i]
  · intros
    have h : u 0 = 140 := by omega
    have e1 : selF unT32L (.lit 0) 140 = u32 (bi (.bits .xor .i64) (v 1) sign32) := rfl
    have e2 : selF ([139, 140, 141, 142, 143, 144].map fun k => (k, .lit 0)) (.lit 400) 140 = .lit 0 := rfl
    simp only [h, e1, e2]
    clear e1 e2
    simp_all [wholeE32, nan32, x32, sign32, bi, no, un, Flt.u32, v, E.den, Bi.den, Un.den, b2i]
  · intros
    have h : u 0 = 141 := by omega
    have e1 : selF unT32L (.lit 0) 141 = wholeE32 .up := rfl
    have e2 : selF ([139, 140, 141, 142, 143, 144].map fun k => (k, .lit 0)) (.lit 400) 141 = .lit 0 := rfl
    simp only [h, e1, e2]
    clear e1 e2
    simp_all [wholeE32, nan32, x32, sign32, bi, no, un, Flt.u32, v, E.den, Bi.den, Un.den, b2i]
  · intros
    have h : u 0 = 142 := by omega
    have e1 : selF unT32L (.lit 0) 142 = wholeE32 .down := rfl
    have e2 : selF ([139, 140, 141, 142, 143, 144].map fun k => (k, .lit 0)) (.lit 400) 142 = .lit 0 := rfl
    simp only [h, e1, e2]
    clear e1 e2
    simp_all [wholeE32, nan32, x32, sign32, bi, no, un, Flt.u32, v, E.den, Bi.den, Un.den, b2i]
  · intros
    have h : u 0 = 143 := by omega
    have e1 : selF unT32L (.lit 0) 143 = wholeE32 .zero := rfl
    have e2 : selF ([139, 140, 141, 142, 143, 144].map fun k => (k, .lit 0)) (.lit 400) 143 = .lit 0 := rfl
    simp only [h, e1, e2]
    clear e1 e2
    simp_all [wholeE32, nan32, x32, sign32, bi, no, un, Flt.u32, v, E.den, Bi.den, Un.den, b2i]
  · intros
    have h : u 0 = 144 := by omega
    have e1 : selF unT32L (.lit 0) 144 = wholeE32 .even := rfl
    have e2 : selF ([139, 140, 141, 142, 143, 144].map fun k => (k, .lit 0)) (.lit 400) 144 = .lit 0 := rfl
    simp only [h, e1, e2]
    clear e1 e2
    simp_all [wholeE32, nan32, x32, sign32, bi, no, un, Flt.u32, v, E.den, Bi.den, Un.den, b2i]
  · intros
    exfalso; omega
  · intros
    rw [selF_none _ _ _ (by intro p hp; simp [unT32L] at hp; omega), selF_none _ _ _ (by intro p hp; simp at hp; omega)]
    exact ⟨rfl, rfl⟩
theorem uT (u : Nat → Int) : 0 ≤ (selF unT32L (.lit 0) (u 0)).den ⟨u, fnF⟩ ∧ (selF unT32L (.lit 0) (u 0)).den ⟨u, fnF⟩ ≤ 4294967295 := by
  have ll : ∀ e : E, 0 ≤ (Flt.u32 e).den ⟨u, fnF⟩ ∧ (Flt.u32 e).den ⟨u, fnF⟩ ≤ 4294967295 := fun e => of_kind (has_kind .u32 _)
  have ww : ∀ w, 0 ≤ (wholeE32 w).den ⟨u, fnF⟩ ∧ (wholeE32 w).den ⟨u, fnF⟩ ≤ 4294967295 := fun w => by
    simp only [wholeE32, bi, un, nan32, x32, Flt.u32, v, E.den, Bi.den, Un.den, b2i_ne, beq_iff_eq]
    split
    · decide
    · rename_i h
      rw [w32_eq] at *
      exact whole32_rng (w32_in (u 1)) w h
  have rng : ∀ (l : List (Int × E)) (d : E) (n : Int), (∀ p ∈ l, 0 ≤ p.2.den ⟨u, fnF⟩ ∧ p.2.den ⟨u, fnF⟩ ≤ 4294967295) → (0 ≤ d.den ⟨u, fnF⟩ ∧ d.den ⟨u, fnF⟩ ≤ 4294967295) → 0 ≤ (selF l d n).den ⟨u, fnF⟩ ∧ (selF l d n).den ⟨u, fnF⟩ ≤ 4294967295 := by
    intro l d n
    induction l with
    | nil => exact fun _ h => h
    | cons p r ih =>
      intro h hd
      obtain ⟨k, e⟩ := p
      simp only [selF]
      by_cases hk : n = k
      · rw [if_pos hk]; exact h _ List.mem_cons_self
      · rw [if_neg hk]; exact ih (fun q hq => h q (List.mem_cons_of_mem _ hq)) hd
  refine rng _ _ _ (fun p hp => ?_) (by simp [E.den])
  simp only [unT32L, List.mem_cons, List.not_mem_nil, or_false] at hp
  rcases hp with rfl | rfl | rfl | rfl | rfl | rfl <;> first | exact ww _ | exact ll _
end Go.Proofs.Ytnodelimomljbaa.PlainOpU

/- The ways of the code through numbers, and that the code takes no other. No condition. -/
namespace Go.Proofs.Ytnodelimomljbaa.RunOpT
open Go Go.Sx Go.Sx.Flt

def binR : List Leaf := [
  ([(.bin .eq (.bin (.ford .f32) (.un (.wrap .u32) (.var 1)) (.un (.wrap .u32) (.var 2))) (.lit 0)), (.bin .eq (.bin .add (.var 0) (.lit (-91))) (.lit 0)), (.bin .le (.var 0) (.lit 96)), (.bin .le (.lit 91) (.var 0))], (.tup [(.int .i64 (.lit 1)), (.int .i64 (.lit 0))])),
  ([(.un .bnot (.bin .eq (.bin (.ford .f32) (.un (.wrap .u32) (.var 1)) (.un (.wrap .u32) (.var 2))) (.lit 0))), (.bin .eq (.bin .add (.var 0) (.lit (-91))) (.lit 0)), (.bin .le (.var 0) (.lit 96)), (.bin .le (.lit 91) (.var 0))], (.tup [(.int .i64 (.lit 0)), (.int .i64 (.lit 0))])),
  ([(.un .bnot (.bin .eq (.bin (.ford .f32) (.un (.wrap .u32) (.var 1)) (.un (.wrap .u32) (.var 2))) (.lit 0))), (.bin .eq (.bin .add (.var 0) (.lit (-91))) (.lit 1)), (.un .bnot (.bin .eq (.bin .add (.var 0) (.lit (-91))) (.lit 0))), (.bin .le (.var 0) (.lit 96)), (.bin .le (.lit 91) (.var 0))], (.tup [(.int .i64 (.lit 1)), (.int .i64 (.lit 0))])),
  ([(.bin .eq (.bin (.ford .f32) (.un (.wrap .u32) (.var 1)) (.un (.wrap .u32) (.var 2))) (.lit 0)), (.bin .eq (.bin .add (.var 0) (.lit (-91))) (.lit 1)), (.un .bnot (.bin .eq (.bin .add (.var 0) (.lit (-91))) (.lit 0))), (.bin .le (.var 0) (.lit 96)), (.bin .le (.lit 91) (.var 0))], (.tup [(.int .i64 (.lit 0)), (.int .i64 (.lit 0))])),
  ([(.bin .eq (.bin (.ford .f32) (.un (.wrap .u32) (.var 1)) (.un (.wrap .u32) (.var 2))) (.lit 1)), (.bin .eq (.bin .add (.var 0) (.lit (-91))) (.lit 2)), (.un .bnot (.bin .eq (.bin .add (.var 0) (.lit (-91))) (.lit 1))), (.un .bnot (.bin .eq (.bin .add (.var 0) (.lit (-91))) (.lit 0))), (.bin .le (.var 0) (.lit 96)), (.bin .le (.lit 91) (.var 0))], (.tup [(.int .i64 (.lit 1)), (.int .i64 (.lit 0))])),
  ([(.un .bnot (.bin .eq (.bin (.ford .f32) (.un (.wrap .u32) (.var 1)) (.un (.wrap .u32) (.var 2))) (.lit 1))), (.bin .eq (.bin .add (.var 0) (.lit (-91))) (.lit 2)), (.un .bnot (.bin .eq (.bin .add (.var 0) (.lit (-91))) (.lit 1))), (.un .bnot (.bin .eq (.bin .add (.var 0) (.lit (-91))) (.lit 0))), (.bin .le (.var 0) (.lit 96)), (.bin .le (.lit 91) (.var 0))], (.tup [(.int .i64 (.lit 0)), (.int .i64 (.lit 0))])),
  ([(.bin .eq (.bin (.ford .f32) (.un (.wrap .u32) (.var 1)) (.un (.wrap .u32) (.var 2))) (.lit 2)), (.bin .eq (.bin .add (.var 0) (.lit (-91))) (.lit 3)), (.un .bnot (.bin .eq (.bin .add (.var 0) (.lit (-91))) (.lit 2))), (.un .bnot (.bin .eq (.bin .add (.var 0) (.lit (-91))) (.lit 1))), (.un .bnot (.bin .eq (.bin .add (.var 0) (.lit (-91))) (.lit 0))), (.bin .le (.var 0) (.lit 96)), (.bin .le (.lit 91) (.var 0))], (.tup [(.int .i64 (.lit 1)), (.int .i64 (.lit 0))])),
  ([(.un .bnot (.bin .eq (.bin (.ford .f32) (.un (.wrap .u32) (.var 1)) (.un (.wrap .u32) (.var 2))) (.lit 2))), (.bin .eq (.bin .add (.var 0) (.lit (-91))) (.lit 3)), (.un .bnot (.bin .eq (.bin .add (.var 0) (.lit (-91))) (.lit 2))), (.un .bnot (.bin .eq (.bin .add (.var 0) (.lit (-91))) (.lit 1))), (.un .bnot (.bin .eq (.bin .add (.var 0) (.lit (-91))) (.lit 0))), (.bin .le (.var 0) (.lit 96)), (.bin .le (.lit 91) (.var 0))], (.tup [(.int .i64 (.lit 0)), (.int .i64 (.lit 0))])),
  ([(.bin .le (.bin (.ford .f32) (.un (.wrap .u32) (.var 1)) (.un (.wrap .u32) (.var 2))) (.lit 1)), (.bin .eq (.bin .add (.var 0) (.lit (-91))) (.lit 4)), (.un .bnot (.bin .eq (.bin .add (.var 0) (.lit (-91))) (.lit 3))), (.un .bnot (.bin .eq (.bin .add (.var 0) (.lit (-91))) (.lit 2))), (.un .bnot (.bin .eq (.bin .add (.var 0) (.lit (-91))) (.lit 1))), (.un .bnot (.bin .eq (.bin .add (.var 0) (.lit (-91))) (.lit 0))), (.bin .le (.var 0) (.lit 96)), (.bin .le (.lit 91) (.var 0))], (.tup [(.int .i64 (.lit 1)), (.int .i64 (.lit 0))])),
  ([(.bin .lt (.lit 1) (.bin (.ford .f32) (.un (.wrap .u32) (.var 1)) (.un (.wrap .u32) (.var 2)))), (.bin .eq (.bin .add (.var 0) (.lit (-91))) (.lit 4)), (.un .bnot (.bin .eq (.bin .add (.var 0) (.lit (-91))) (.lit 3))), (.un .bnot (.bin .eq (.bin .add (.var 0) (.lit (-91))) (.lit 2))), (.un .bnot (.bin .eq (.bin .add (.var 0) (.lit (-91))) (.lit 1))), (.un .bnot (.bin .eq (.bin .add (.var 0) (.lit (-91))) (.lit 0))), (.bin .le (.var 0) (.lit 96)), (.bin .le (.lit 91) (.var 0))], (.tup [(.int .i64 (.lit 0)), (.int .i64 (.lit 0))])),
  ([(.bin .or (.bin .eq (.bin (.ford .f32) (.un (.wrap .u32) (.var 1)) (.un (.wrap .u32) (.var 2))) (.lit 2)) (.bin .eq (.bin (.ford .f32) (.un (.wrap .u32) (.var 1)) (.un (.wrap .u32) (.var 2))) (.lit 0))), (.un .bnot (.bin .eq (.bin .add (.var 0) (.lit (-91))) (.lit 4))), (.un .bnot (.bin .eq (.bin .add (.var 0) (.lit (-91))) (.lit 3))), (.un .bnot (.bin .eq (.bin .add (.var 0) (.lit (-91))) (.lit 2))), (.un .bnot (.bin .eq (.bin .add (.var 0) (.lit (-91))) (.lit 1))), (.un .bnot (.bin .eq (.bin .add (.var 0) (.lit (-91))) (.lit 0))), (.bin .le (.var 0) (.lit 96)), (.bin .le (.lit 91) (.var 0))], (.tup [(.int .i64 (.lit 1)), (.int .i64 (.lit 0))])),
  ([(.un .bnot (.bin .or (.bin .eq (.bin (.ford .f32) (.un (.wrap .u32) (.var 1)) (.un (.wrap .u32) (.var 2))) (.lit 2)) (.bin .eq (.bin (.ford .f32) (.un (.wrap .u32) (.var 1)) (.un (.wrap .u32) (.var 2))) (.lit 0)))), (.un .bnot (.bin .eq (.bin .add (.var 0) (.lit (-91))) (.lit 4))), (.un .bnot (.bin .eq (.bin .add (.var 0) (.lit (-91))) (.lit 3))), (.un .bnot (.bin .eq (.bin .add (.var 0) (.lit (-91))) (.lit 2))), (.un .bnot (.bin .eq (.bin .add (.var 0) (.lit (-91))) (.lit 1))), (.un .bnot (.bin .eq (.bin .add (.var 0) (.lit (-91))) (.lit 0))), (.bin .le (.var 0) (.lit 96)), (.bin .le (.lit 91) (.var 0))], (.tup [(.int .i64 (.lit 0)), (.int .i64 (.lit 0))])),
  ([(.un .bnot (.bin .eq (.bin (.far .add .f32) (.un (.wrap .u32) (.var 1)) (.un (.wrap .u32) (.var 2))) (.lit (-1)))), (.bin .eq (.bin .add (.var 0) (.lit (-146))) (.lit 0)), (.bin .le (.var 0) (.lit 151)), (.bin .le (.lit 146) (.var 0)), (.bin .lt (.lit 96) (.var 0)), (.bin .le (.lit 91) (.var 0))], (.tup [(.int .i64 (.bin (.far .add .f32) (.un (.wrap .u32) (.var 1)) (.un (.wrap .u32) (.var 2)))), (.int .i64 (.lit 0))])),
  ([(.bin .eq (.bin (.far .add .f32) (.un (.wrap .u32) (.var 1)) (.un (.wrap .u32) (.var 2))) (.lit (-1))), (.bin .eq (.bin .add (.var 0) (.lit (-146))) (.lit 0)), (.bin .le (.var 0) (.lit 151)), (.bin .le (.lit 146) (.var 0)), (.bin .lt (.lit 96) (.var 0)), (.bin .le (.lit 91) (.var 0))], (.tup [(.int .i64 (.lit 2143289344)), (.int .i64 (.lit 0))])),
  ([(.un .bnot (.bin .eq (.bin (.far .sub .f32) (.un (.wrap .u32) (.var 1)) (.un (.wrap .u32) (.var 2))) (.lit (-1)))), (.bin .eq (.bin .add (.var 0) (.lit (-146))) (.lit 1)), (.un .bnot (.bin .eq (.bin .add (.var 0) (.lit (-146))) (.lit 0))), (.bin .le (.var 0) (.lit 151)), (.bin .le (.lit 146) (.var 0)), (.bin .lt (.lit 96) (.var 0)), (.bin .le (.lit 91) (.var 0))], (.tup [(.int .i64 (.bin (.far .sub .f32) (.un (.wrap .u32) (.var 1)) (.un (.wrap .u32) (.var 2)))), (.int .i64 (.lit 0))])),
  ([(.bin .eq (.bin (.far .sub .f32) (.un (.wrap .u32) (.var 1)) (.un (.wrap .u32) (.var 2))) (.lit (-1))), (.bin .eq (.bin .add (.var 0) (.lit (-146))) (.lit 1)), (.un .bnot (.bin .eq (.bin .add (.var 0) (.lit (-146))) (.lit 0))), (.bin .le (.var 0) (.lit 151)), (.bin .le (.lit 146) (.var 0)), (.bin .lt (.lit 96) (.var 0)), (.bin .le (.lit 91) (.var 0))], (.tup [(.int .i64 (.lit 2143289344)), (.int .i64 (.lit 0))])),
  ([(.un .bnot (.bin .eq (.bin (.far .mul .f32) (.un (.wrap .u32) (.var 1)) (.un (.wrap .u32) (.var 2))) (.lit (-1)))), (.bin .eq (.bin .add (.var 0) (.lit (-146))) (.lit 2)), (.un .bnot (.bin .eq (.bin .add (.var 0) (.lit (-146))) (.lit 1))), (.un .bnot (.bin .eq (.bin .add (.var 0) (.lit (-146))) (.lit 0))), (.bin .le (.var 0) (.lit 151)), (.bin .le (.lit 146) (.var 0)), (.bin .lt (.lit 96) (.var 0)), (.bin .le (.lit 91) (.var 0))], (.tup [(.int .i64 (.bin (.far .mul .f32) (.un (.wrap .u32) (.var 1)) (.un (.wrap .u32) (.var 2)))), (.int .i64 (.lit 0))])),
  ([(.bin .eq (.bin (.far .mul .f32) (.un (.wrap .u32) (.var 1)) (.un (.wrap .u32) (.var 2))) (.lit (-1))), (.bin .eq (.bin .add (.var 0) (.lit (-146))) (.lit 2)), (.un .bnot (.bin .eq (.bin .add (.var 0) (.lit (-146))) (.lit 1))), (.un .bnot (.bin .eq (.bin .add (.var 0) (.lit (-146))) (.lit 0))), (.bin .le (.var 0) (.lit 151)), (.bin .le (.lit 146) (.var 0)), (.bin .lt (.lit 96) (.var 0)), (.bin .le (.lit 91) (.var 0))], (.tup [(.int .i64 (.lit 2143289344)), (.int .i64 (.lit 0))])),
  ([(.un .bnot (.bin .eq (.bin (.far .quo .f32) (.un (.wrap .u32) (.var 1)) (.un (.wrap .u32) (.var 2))) (.lit (-1)))), (.bin .eq (.bin .add (.var 0) (.lit (-146))) (.lit 3)), (.un .bnot (.bin .eq (.bin .add (.var 0) (.lit (-146))) (.lit 2))), (.un .bnot (.bin .eq (.bin .add (.var 0) (.lit (-146))) (.lit 1))), (.un .bnot (.bin .eq (.bin .add (.var 0) (.lit (-146))) (.lit 0))), (.bin .le (.var 0) (.lit 151)), (.bin .le (.lit 146) (.var 0)), (.bin .lt (.lit 96) (.var 0)), (.bin .le (.lit 91) (.var 0))], (.tup [(.int .i64 (.bin (.far .quo .f32) (.un (.wrap .u32) (.var 1)) (.un (.wrap .u32) (.var 2)))), (.int .i64 (.lit 0))])),
  ([(.bin .eq (.bin (.far .quo .f32) (.un (.wrap .u32) (.var 1)) (.un (.wrap .u32) (.var 2))) (.lit (-1))), (.bin .eq (.bin .add (.var 0) (.lit (-146))) (.lit 3)), (.un .bnot (.bin .eq (.bin .add (.var 0) (.lit (-146))) (.lit 2))), (.un .bnot (.bin .eq (.bin .add (.var 0) (.lit (-146))) (.lit 1))), (.un .bnot (.bin .eq (.bin .add (.var 0) (.lit (-146))) (.lit 0))), (.bin .le (.var 0) (.lit 151)), (.bin .le (.lit 146) (.var 0)), (.bin .lt (.lit 96) (.var 0)), (.bin .le (.lit 91) (.var 0))], (.tup [(.int .i64 (.lit 2143289344)), (.int .i64 (.lit 0))])),
  ([(.un .bnot (.bin .eq (.bin (.ford .f32) (.un (.wrap .u32) (.var 1)) (.un (.wrap .u32) (.var 1))) (.lit 0))), (.un .bnot (.bin .eq (.bin .add (.var 0) (.lit (-146))) (.lit 3))), (.un .bnot (.bin .eq (.bin .add (.var 0) (.lit (-146))) (.lit 2))), (.un .bnot (.bin .eq (.bin .add (.var 0) (.lit (-146))) (.lit 1))), (.un .bnot (.bin .eq (.bin .add (.var 0) (.lit (-146))) (.lit 0))), (.bin .le (.var 0) (.lit 151)), (.bin .le (.lit 146) (.var 0)), (.bin .lt (.lit 96) (.var 0)), (.bin .le (.lit 91) (.var 0))], (.tup [(.int .i64 (.lit 2143289344)), (.int .i64 (.lit 0))])),
  ([(.un .bnot (.bin .eq (.bin (.ford .f32) (.un (.wrap .u32) (.var 2)) (.un (.wrap .u32) (.var 2))) (.lit 0))), (.bin .eq (.bin (.ford .f32) (.un (.wrap .u32) (.var 1)) (.un (.wrap .u32) (.var 1))) (.lit 0)), (.un .bnot (.bin .eq (.bin .add (.var 0) (.lit (-146))) (.lit 3))), (.un .bnot (.bin .eq (.bin .add (.var 0) (.lit (-146))) (.lit 2))), (.un .bnot (.bin .eq (.bin .add (.var 0) (.lit (-146))) (.lit 1))), (.un .bnot (.bin .eq (.bin .add (.var 0) (.lit (-146))) (.lit 0))), (.bin .le (.var 0) (.lit 151)), (.bin .le (.lit 146) (.var 0)), (.bin .lt (.lit 96) (.var 0)), (.bin .le (.lit 91) (.var 0))], (.tup [(.int .i64 (.lit 2143289344)), (.int .i64 (.lit 0))])),
  ([(.un .bnot (.bin .eq (.un (.fconv .f64 .f32) (.bin (.fpick true) (.un (.fconv .f32 .f64) (.un (.wrap .u32) (.var 1))) (.un (.fconv .f32 .f64) (.un (.wrap .u32) (.var 2))))) (.lit (-2)))), (.bin .eq (.bin .add (.var 0) (.lit (-146))) (.lit 4)), (.bin .eq (.bin (.ford .f32) (.un (.wrap .u32) (.var 2)) (.un (.wrap .u32) (.var 2))) (.lit 0)), (.bin .eq (.bin (.ford .f32) (.un (.wrap .u32) (.var 1)) (.un (.wrap .u32) (.var 1))) (.lit 0)), (.un .bnot (.bin .eq (.bin .add (.var 0) (.lit (-146))) (.lit 3))), (.un .bnot (.bin .eq (.bin .add (.var 0) (.lit (-146))) (.lit 2))), (.un .bnot (.bin .eq (.bin .add (.var 0) (.lit (-146))) (.lit 1))), (.un .bnot (.bin .eq (.bin .add (.var 0) (.lit (-146))) (.lit 0))), (.bin .le (.var 0) (.lit 151)), (.bin .le (.lit 146) (.var 0)), (.bin .lt (.lit 96) (.var 0)), (.bin .le (.lit 91) (.var 0))], (.tup [(.int .i64 (.un (.fconv .f64 .f32) (.bin (.fpick true) (.un (.fconv .f32 .f64) (.un (.wrap .u32) (.var 1))) (.un (.fconv .f32 .f64) (.un (.wrap .u32) (.var 2)))))), (.int .i64 (.lit 0))])),
  ([(.un .bnot (.bin .eq (.bin (.ford .f32) (.var 3) (.var 3)) (.lit 0))), (.bin .eq (.un (.fconv .f64 .f32) (.bin (.fpick true) (.un (.fconv .f32 .f64) (.un (.wrap .u32) (.var 1))) (.un (.fconv .f32 .f64) (.un (.wrap .u32) (.var 2))))) (.lit (-2))), (.bin .eq (.bin .add (.var 0) (.lit (-146))) (.lit 4)), (.bin .eq (.bin (.ford .f32) (.un (.wrap .u32) (.var 2)) (.un (.wrap .u32) (.var 2))) (.lit 0)), (.bin .eq (.bin (.ford .f32) (.un (.wrap .u32) (.var 1)) (.un (.wrap .u32) (.var 1))) (.lit 0)), (.un .bnot (.bin .eq (.bin .add (.var 0) (.lit (-146))) (.lit 3))), (.un .bnot (.bin .eq (.bin .add (.var 0) (.lit (-146))) (.lit 2))), (.un .bnot (.bin .eq (.bin .add (.var 0) (.lit (-146))) (.lit 1))), (.un .bnot (.bin .eq (.bin .add (.var 0) (.lit (-146))) (.lit 0))), (.bin .le (.var 0) (.lit 151)), (.bin .le (.lit 146) (.var 0)), (.bin .lt (.lit 96) (.var 0)), (.bin .le (.lit 91) (.var 0))], (.tup [(.int .i64 (.lit 2143289344)), (.int .i64 (.lit 0))])),
  ([(.bin .eq (.bin (.ford .f32) (.var 3) (.var 3)) (.lit 0)), (.bin .eq (.un (.fconv .f64 .f32) (.bin (.fpick true) (.un (.fconv .f32 .f64) (.un (.wrap .u32) (.var 1))) (.un (.fconv .f32 .f64) (.un (.wrap .u32) (.var 2))))) (.lit (-2))), (.bin .eq (.bin .add (.var 0) (.lit (-146))) (.lit 4)), (.bin .eq (.bin (.ford .f32) (.un (.wrap .u32) (.var 2)) (.un (.wrap .u32) (.var 2))) (.lit 0)), (.bin .eq (.bin (.ford .f32) (.un (.wrap .u32) (.var 1)) (.un (.wrap .u32) (.var 1))) (.lit 0)), (.un .bnot (.bin .eq (.bin .add (.var 0) (.lit (-146))) (.lit 3))), (.un .bnot (.bin .eq (.bin .add (.var 0) (.lit (-146))) (.lit 2))), (.un .bnot (.bin .eq (.bin .add (.var 0) (.lit (-146))) (.lit 1))), (.un .bnot (.bin .eq (.bin .add (.var 0) (.lit (-146))) (.lit 0))), (.bin .le (.var 0) (.lit 151)), (.bin .le (.lit 146) (.var 0)), (.bin .lt (.lit 96) (.var 0)), (.bin .le (.lit 91) (.var 0))], (.tup [(.int .i64 (.var 3)), (.int .i64 (.lit 0))])),
  ([(.un .bnot (.bin .eq (.un (.fconv .f64 .f32) (.bin (.fpick false) (.un (.fconv .f32 .f64) (.un (.wrap .u32) (.var 1))) (.un (.fconv .f32 .f64) (.un (.wrap .u32) (.var 2))))) (.lit (-2)))), (.un .bnot (.bin .eq (.bin .add (.var 0) (.lit (-146))) (.lit 4))), (.bin .eq (.bin (.ford .f32) (.un (.wrap .u32) (.var 2)) (.un (.wrap .u32) (.var 2))) (.lit 0)), (.bin .eq (.bin (.ford .f32) (.un (.wrap .u32) (.var 1)) (.un (.wrap .u32) (.var 1))) (.lit 0)), (.un .bnot (.bin .eq (.bin .add (.var 0) (.lit (-146))) (.lit 3))), (.un .bnot (.bin .eq (.bin .add (.var 0) (.lit (-146))) (.lit 2))), (.un .bnot (.bin .eq (.bin .add (.var 0) (.lit (-146))) (.lit 1))), (.un .bnot (.bin .eq (.bin .add (.var 0) (.lit (-146))) (.lit 0))), (.bin .le (.var 0) (.lit 151)), (.bin .le (.lit 146) (.var 0)), (.bin .lt (.lit 96) (.var 0)), (.bin .le (.lit 91) (.var 0))], (.tup [(.int .i64 (.un (.fconv .f64 .f32) (.bin (.fpick false) (.un (.fconv .f32 .f64) (.un (.wrap .u32) (.var 1))) (.un (.fconv .f32 .f64) (.un (.wrap .u32) (.var 2)))))), (.int .i64 (.lit 0))])),
  ([(.un .bnot (.bin .eq (.bin (.ford .f32) (.var 3) (.var 3)) (.lit 0))), (.bin .eq (.un (.fconv .f64 .f32) (.bin (.fpick false) (.un (.fconv .f32 .f64) (.un (.wrap .u32) (.var 1))) (.un (.fconv .f32 .f64) (.un (.wrap .u32) (.var 2))))) (.lit (-2))), (.un .bnot (.bin .eq (.bin .add (.var 0) (.lit (-146))) (.lit 4))), (.bin .eq (.bin (.ford .f32) (.un (.wrap .u32) (.var 2)) (.un (.wrap .u32) (.var 2))) (.lit 0)), (.bin .eq (.bin (.ford .f32) (.un (.wrap .u32) (.var 1)) (.un (.wrap .u32) (.var 1))) (.lit 0)), (.un .bnot (.bin .eq (.bin .add (.var 0) (.lit (-146))) (.lit 3))), (.un .bnot (.bin .eq (.bin .add (.var 0) (.lit (-146))) (.lit 2))), (.un .bnot (.bin .eq (.bin .add (.var 0) (.lit (-146))) (.lit 1))), (.un .bnot (.bin .eq (.bin .add (.var 0) (.lit (-146))) (.lit 0))), (.bin .le (.var 0) (.lit 151)), (.bin .le (.lit 146) (.var 0)), (.bin .lt (.lit 96) (.var 0)), (.bin .le (.lit 91) (.var 0))], (.tup [(.int .i64 (.lit 2143289344)), (.int .i64 (.lit 0))])),
  ([(.bin .eq (.bin (.ford .f32) (.var 3) (.var 3)) (.lit 0)), (.bin .eq (.un (.fconv .f64 .f32) (.bin (.fpick false) (.un (.fconv .f32 .f64) (.un (.wrap .u32) (.var 1))) (.un (.fconv .f32 .f64) (.un (.wrap .u32) (.var 2))))) (.lit (-2))), (.un .bnot (.bin .eq (.bin .add (.var 0) (.lit (-146))) (.lit 4))), (.bin .eq (.bin (.ford .f32) (.un (.wrap .u32) (.var 2)) (.un (.wrap .u32) (.var 2))) (.lit 0)), (.bin .eq (.bin (.ford .f32) (.un (.wrap .u32) (.var 1)) (.un (.wrap .u32) (.var 1))) (.lit 0)), (.un .bnot (.bin .eq (.bin .add (.var 0) (.lit (-146))) (.lit 3))), (.un .bnot (.bin .eq (.bin .add (.var 0) (.lit (-146))) (.lit 2))), (.un .bnot (.bin .eq (.bin .add (.var 0) (.lit (-146))) (.lit 1))), (.un .bnot (.bin .eq (.bin .add (.var 0) (.lit (-146))) (.lit 0))), (.bin .le (.var 0) (.lit 151)), (.bin .le (.lit 146) (.var 0)), (.bin .lt (.lit 96) (.var 0)), (.bin .le (.lit 91) (.var 0))], (.tup [(.int .i64 (.var 3)), (.int .i64 (.lit 0))])),
  ([(.bin .eq (.var 0) (.lit 152)), (.bin .lt (.lit 151) (.var 0)), (.bin .le (.lit 146) (.var 0)), (.bin .lt (.lit 96) (.var 0)), (.bin .le (.lit 91) (.var 0))], (.tup [(.int .i64 (.un (.wrap .u32) (.bin (.bits .or .i64) (.bin (.bits .andNot .i64) (.var 1) (.lit 2147483648)) (.bin (.bits .and .i64) (.var 2) (.lit 2147483648))))), (.int .i64 (.lit 0))])),
  ([(.un .bnot (.bin .eq (.var 0) (.lit 152))), (.bin .lt (.lit 151) (.var 0)), (.bin .le (.lit 146) (.var 0)), (.bin .lt (.lit 96) (.var 0)), (.bin .le (.lit 91) (.var 0))], (.tup [(.int .i64 (.lit 0)), (.int .i64 (.lit 400))])),
  ([(.bin .lt (.var 0) (.lit 146)), (.bin .lt (.lit 96) (.var 0)), (.bin .le (.lit 91) (.var 0))], (.tup [(.int .i64 (.lit 0)), (.int .i64 (.lit 400))])),
  ([(.bin .lt (.var 0) (.lit 91))], (.tup [(.int .i64 (.lit 0)), (.int .i64 (.lit 400))]))]
set_option maxRecDepth 100000 in
theorem binRan : runOf Try.prog (xOracle xts) noLoops (bodies fns) [] 4000 binT32.f binT32.ks binT32.pre = some binR := by kernel_rfl
end Go.Proofs.Ytnodelimomljbaa.RunOpT

/- The contract of f32n.Bin, in numbers alone. No condition. -/
namespace Go.Proofs.Ytnodelimomljbaa.PlainOpT
open Go Go.Sx Go.Sx.Flt Go.Proofs.Ytnodelimomljbaa.RunOpT

theorem unOne2 (a b : Option IntKind × E) (vs : List V) : unOne [a, b].length (.tup vs) = vs := rfl
theorem binV_den (ρ : Env) : binTV32.den ρ = (selF binT32L (.lit 0) (ρ.v 0)).den ρ := den_sel _ _ _
theorem binE_den (ρ : Env) : binTE32.den ρ = (selF ([91, 92, 93, 94, 95, 96, 146, 147, 148, 149, 150, 151, 152].map fun k => (k, .lit 0)) (.lit 400) (ρ.v 0)).den ρ := den_sel _ _ _
set_option linter.unusedSimpArgs false
set_option linter.unusedVariables false
theorem bin_plain (u : Nat → Int) (hk : KindOk u 0 binT32.ks) : Keeps ⟨u, fnF⟩ binT32.res binR := by
  simp only [binT32, binR, Keeps, chain, unOne2, SameL, E.prop, E.den, Bi.den, Un.den, true_and, and_true, binV_den, binE_den]
  refine ⟨?_, ?_, ?_, ?_, ?_, ?_, ?_, ?_, ?_, ?_, ?_, ?_, ?_, ?_, ?_, ?_, ?_, ?_, ?_, ?_, ?_, ?_, ?_, ?_, ?_, ?_, ?_, ?_, ?_, ?_, ?_, ?_⟩
  · intros
    have h : u 0 = 91 := by omega
    have e1 : selF binT32L (.lit 0) 91 = tr (bi .eq o32 (.lit 0)) := rfl
    have e2 : selF ([91, 92, 93, 94, 95, 96, 146, 147, 148, 149, 150, 151, 152].map fun k => (k, .lit 0)) (.lit 400) 91 = .lit 0 := rfl
    simp only [h, e1, e2]
    clear e1 e2
    simp_all [can32, nan32, x32, y32, o32, sign32, pickE32, tr, bi, no, un, Flt.u32, v, E.den, Bi.den, Un.den, b2i]
    all_goals (try (have hx := Int.not_le.2 (by assumption : (1 : Int) < fordI _ _ _); simp [hx]))
  · intros
    have h : u 0 = 91 := by omega
    have e1 : selF binT32L (.lit 0) 91 = tr (bi .eq o32 (.lit 0)) := rfl
    have e2 : selF ([91, 92, 93, 94, 95, 96, 146, 147, 148, 149, 150, 151, 152].map fun k => (k, .lit 0)) (.lit 400) 91 = .lit 0 := rfl
    simp only [h, e1, e2]
    clear e1 e2
    simp_all [can32, nan32, x32, y32, o32, sign32, pickE32, tr, bi, no, un, Flt.u32, v, E.den, Bi.den, Un.den, b2i]
    all_goals (try (have hx := Int.not_le.2 (by assumption : (1 : Int) < fordI _ _ _); simp [hx]))
  · intros
    have h : u 0 = 92 := by omega
    have e1 : selF binT32L (.lit 0) 92 = tr (no (bi .eq o32 (.lit 0))) := rfl
    have e2 : selF ([91, 92, 93, 94, 95, 96, 146, 147, 148, 149, 150, 151, 152].map fun k => (k, .lit 0)) (.lit 400) 92 = .lit 0 := rfl
    simp only [h, e1, e2]
    clear e1 e2
    simp_all [can32, nan32, x32, y32, o32, sign32, pickE32, tr, bi, no, un, Flt.u32, v, E.den, Bi.den, Un.den, b2i]
    all_goals (try (have hx := Int.not_le.2 (by assumption : (1 : Int) < fordI _ _ _); simp [hx]))
  · intros
    have h : u 0 = 92 := by omega
    have e1 : selF binT32L (.lit 0) 92 = tr (no (bi .eq o32 (.lit 0))) := rfl
    have e2 : selF ([91, 92, 93, 94, 95, 96, 146, 147, 148, 149, 150, 151, 152].map fun k => (k, .lit 0)) (.lit 400) 92 = .lit 0 := rfl
    simp only [h, e1, e2]
    clear e1 e2
    simp_all [can32, nan32, x32, y32, o32, sign32, pickE32, tr, bi, no, un, Flt.u32, v, E.den, Bi.den, Un.den, b2i]
    all_goals (try (have hx := Int.not_le.2 (by assumption : (1 : Int) < fordI _ _ _); simp [hx]))
  · intros
    have h : u 0 = 93 := by omega
    have e1 : selF binT32L (.lit 0) 93 = tr (bi .eq o32 (.lit 1)) := rfl
    have e2 : selF ([91, 92, 93, 94, 95, 96, 146, 147, 148, 149, 150, 151, 152].map fun k => (k, .lit 0)) (.lit 400) 93 = .lit 0 := rfl
    simp only [h, e1, e2]
    clear e1 e2
    simp_all [can32, nan32, x32, y32, o32, sign32, pickE32, tr, bi, no, un, Flt.u32, v, E.den, Bi.den, Un.den, b2i]
    all_goals (try (have hx := Int.not_le.2 (by assumption : (1 : Int) < fordI _ _ _); simp [hx]))
  · intros
    have h : u 0 = 93 := by omega
    have e1 : selF binT32L (.lit 0) 93 = tr (bi .eq o32 (.lit 1)) := rfl
    have e2 : selF ([91, 92, 93, 94, 95, 96, 146, 147, 148, 149, 150, 151, 152].map fun k => (k, .lit 0)) (.lit 400) 93 = .lit 0 := rfl
    simp only [h, e1, e2]
    clear e1 e2
    simp_all [can32, nan32, x32, y32, o32, sign32, pickE32, tr, bi, no, un, Flt.u32, v, E.den, Bi.den, Un.den, b2i]
    all_goals (try (have hx := Int.not_le.2 (by assumption : (1 : Int) < fordI _ _ _); simp [hx]))
  · intros
    have h : u 0 = 94 := by omega
    have e1 : selF binT32L (.lit 0) 94 = tr (bi .eq o32 (.lit 2)) := rfl
    have e2 : selF ([91, 92, 93, 94, 95, 96, 146, 147, 148, 149, 150, 151, 152].map fun k => (k, .lit 0)) (.lit 400) 94 = .lit 0 := rfl
    simp only [h, e1, e2]
    clear e1 e2
    simp_all [can32, nan32, x32, y32, o32, sign32, pickE32, tr, bi, no, un, Flt.u32, v, E.den, Bi.den, Un.den, b2i]
    all_goals (try (have hx := Int.not_le.2 (by assumption : (1 : Int) < fordI _ _ _); simp [hx]))
  · intros
    have h : u 0 = 94 := by omega
    have e1 : selF binT32L (.lit 0) 94 = tr (bi .eq o32 (.lit 2)) := rfl
    have e2 : selF ([91, 92, 93, 94, 95, 96, 146, 147, 148, 149, 150, 151, 152].map fun k => (k, .lit 0)) (.lit 400) 94 = .lit 0 := rfl
    simp only [h, e1, e2]
    clear e1 e2
    simp_all [can32, nan32, x32, y32, o32, sign32, pickE32, tr, bi, no, un, Flt.u32, v, E.den, Bi.den, Un.den, b2i]
    all_goals (try (have hx := Int.not_le.2 (by assumption : (1 : Int) < fordI _ _ _); simp [hx]))
  · intros
    have h : u 0 = 95 := by omega
    have e1 : selF binT32L (.lit 0) 95 = tr (bi .le o32 (.lit 1)) := rfl
    have e2 : selF ([91, 92, 93, 94, 95, 96, 146, 147, 148, 149, 150, 151, 152].map fun k => (k, .lit 0)) (.lit 400) 95 = .lit 0 := rfl
    simp only [h, e1, e2]
    clear e1 e2
    simp_all [can32, nan32, x32, y32, o32, sign32, pickE32, tr, bi, no, un, Flt.u32, v, E.den, Bi.den, Un.den, b2i]
    all_goals (try (have hx := Int.not_le.2 (by assumption : (1 : Int) < fordI _ _ _); simp [hx]))
  · intros
    have h : u 0 = 95 := by omega
    have e1 : selF binT32L (.lit 0) 95 = tr (bi .le o32 (.lit 1)) := rfl
    have e2 : selF ([91, 92, 93, 94, 95, 96, 146, 147, 148, 149, 150, 151, 152].map fun k => (k, .lit 0)) (.lit 400) 95 = .lit 0 := rfl
    simp only [h, e1, e2]
    clear e1 e2
    simp_all [can32, nan32, x32, y32, o32, sign32, pickE32, tr, bi, no, un, Flt.u32, v, E.den, Bi.den, Un.den, b2i]
    all_goals (try (have hx := Int.not_le.2 (by assumption : (1 : Int) < fordI _ _ _); simp [hx]))
  · intros
    have h : u 0 = 96 := by omega
    have e1 : selF binT32L (.lit 0) 96 = tr (bi .or (bi .eq o32 (.lit 2)) (bi .eq o32 (.lit 0))) := rfl
    have e2 : selF ([91, 92, 93, 94, 95, 96, 146, 147, 148, 149, 150, 151, 152].map fun k => (k, .lit 0)) (.lit 400) 96 = .lit 0 := rfl
    simp only [h, e1, e2]
    clear e1 e2
    simp_all [can32, nan32, x32, y32, o32, sign32, pickE32, tr, bi, no, un, Flt.u32, v, E.den, Bi.den, Un.den, b2i]
    all_goals (try (have hx := Int.not_le.2 (by assumption : (1 : Int) < fordI _ _ _); simp [hx]))
  · intros
    have h : u 0 = 96 := by omega
    have e1 : selF binT32L (.lit 0) 96 = tr (bi .or (bi .eq o32 (.lit 2)) (bi .eq o32 (.lit 0))) := rfl
    have e2 : selF ([91, 92, 93, 94, 95, 96, 146, 147, 148, 149, 150, 151, 152].map fun k => (k, .lit 0)) (.lit 400) 96 = .lit 0 := rfl
    simp only [h, e1, e2]
    clear e1 e2
    simp_all [can32, nan32, x32, y32, o32, sign32, pickE32, tr, bi, no, un, Flt.u32, v, E.den, Bi.den, Un.den, b2i]
    all_goals (try (have hx := Int.not_le.2 (by assumption : (1 : Int) < fordI _ _ _); simp [hx]))
  · intros
    have h : u 0 = 146 := by omega
    have e1 : selF binT32L (.lit 0) 146 = can32 (bi (.far .add .f32) x32 y32) := rfl
    have e2 : selF ([91, 92, 93, 94, 95, 96, 146, 147, 148, 149, 150, 151, 152].map fun k => (k, .lit 0)) (.lit 400) 146 = .lit 0 := rfl
    simp only [h, e1, e2]
    clear e1 e2
    simp_all [can32, nan32, x32, y32, o32, sign32, pickE32, tr, bi, no, un, Flt.u32, v, E.den, Bi.den, Un.den, b2i]
    all_goals (try (have hx := Int.not_le.2 (by assumption : (1 : Int) < fordI _ _ _); simp [hx]))
  · intros
    have h : u 0 = 146 := by omega
    have e1 : selF binT32L (.lit 0) 146 = can32 (bi (.far .add .f32) x32 y32) := rfl
    have e2 : selF ([91, 92, 93, 94, 95, 96, 146, 147, 148, 149, 150, 151, 152].map fun k => (k, .lit 0)) (.lit 400) 146 = .lit 0 := rfl
    simp only [h, e1, e2]
    clear e1 e2
    simp_all [can32, nan32, x32, y32, o32, sign32, pickE32, tr, bi, no, un, Flt.u32, v, E.den, Bi.den, Un.den, b2i]
    all_goals (try (have hx := Int.not_le.2 (by assumption : (1 : Int) < fordI _ _ _); simp [hx]))
  · intros
    have h : u 0 = 147 := by omega
    have e1 : selF binT32L (.lit 0) 147 = can32 (bi (.far .sub .f32) x32 y32) := rfl
    have e2 : selF ([91, 92, 93, 94, 95, 96, 146, 147, 148, 149, 150, 151, 152].map fun k => (k, .lit 0)) (.lit 400) 147 = .lit 0 := rfl
    simp only [h, e1, e2]
    clear e1 e2
    simp_all [can32, nan32, x32, y32, o32, sign32, pickE32, tr, bi, no, un, Flt.u32, v, E.den, Bi.den, Un.den, b2i]
    all_goals (try (have hx := Int.not_le.2 (by assumption : (1 : Int) < fordI _ _ _); simp [hx]))
  · intros
    have h : u 0 = 147 := by omega
    have e1 : selF binT32L (.lit 0) 147 = can32 (bi (.far .sub .f32) x32 y32) := rfl
    have e2 : selF ([91, 92, 93, 94, 95, 96, 146, 147, 148, 149, 150, 151, 152].map fun k => (k, .lit 0)) (.lit 400) 147 = .lit 0 := rfl
    simp only [h, e1, e2]
    clear e1 e2
    simp_all [can32, nan32, x32, y32, o32, sign32, pickE32, tr, bi, no, un, Flt.u32, v, E.den, Bi.den, Un.den, b2i]
    all_goals (try (have hx := Int.not_le.2 (by assumption : (1 : Int) < fordI _ _ _); simp [hx]))
  · intros
    have h : u 0 = 148 := by omega
    have e1 : selF binT32L (.lit 0) 148 = can32 (bi (.far .mul .f32) x32 y32) := rfl
    have e2 : selF ([91, 92, 93, 94, 95, 96, 146, 147, 148, 149, 150, 151, 152].map fun k => (k, .lit 0)) (.lit 400) 148 = .lit 0 := rfl
    simp only [h, e1, e2]
    clear e1 e2
    simp_all [can32, nan32, x32, y32, o32, sign32, pickE32, tr, bi, no, un, Flt.u32, v, E.den, Bi.den, Un.den, b2i]
    all_goals (try (have hx := Int.not_le.2 (by assumption : (1 : Int) < fordI _ _ _); simp [hx]))
  · intros
    have h : u 0 = 148 := by omega
    have e1 : selF binT32L (.lit 0) 148 = can32 (bi (.far .mul .f32) x32 y32) := rfl
    have e2 : selF ([91, 92, 93, 94, 95, 96, 146, 147, 148, 149, 150, 151, 152].map fun k => (k, .lit 0)) (.lit 400) 148 = .lit 0 := rfl
    simp only [h, e1, e2]
    clear e1 e2
    simp_all [can32, nan32, x32, y32, o32, sign32, pickE32, tr, bi, no, un, Flt.u32, v, E.den, Bi.den, Un.den, b2i]
    all_goals (try (have hx := Int.not_le.2 (by assumption : (1 : Int) < fordI _ _ _); simp [hx]))
  · intros
    have h : u 0 = 149 := by omega
    have e1 : selF binT32L (.lit 0) 149 = can32 (bi (.far .quo .f32) x32 y32) := rfl
    have e2 : selF ([91, 92, 93, 94, 95, 96, 146, 147, 148, 149, 150, 151, 152].map fun k => (k, .lit 0)) (.lit 400) 149 = .lit 0 := rfl
    simp only [h, e1, e2]
    clear e1 e2
    simp_all [can32, nan32, x32, y32, o32, sign32, pickE32, tr, bi, no, un, Flt.u32, v, E.den, Bi.den, Un.den, b2i]
    all_goals (try (have hx := Int.not_le.2 (by assumption : (1 : Int) < fordI _ _ _); simp [hx]))
  · intros
    have h : u 0 = 149 := by omega
    have e1 : selF binT32L (.lit 0) 149 = can32 (bi (.far .quo .f32) x32 y32) := rfl
    have e2 : selF ([91, 92, 93, 94, 95, 96, 146, 147, 148, 149, 150, 151, 152].map fun k => (k, .lit 0)) (.lit 400) 149 = .lit 0 := rfl
    simp only [h, e1, e2]
    clear e1 e2
    simp_all [can32, nan32, x32, y32, o32, sign32, pickE32, tr, bi, no, un, Flt.u32, v, E.den, Bi.den, Un.den, b2i]
    all_goals (try (have hx := Int.not_le.2 (by assumption : (1 : Int) < fordI _ _ _); simp [hx]))
  · intros
    rcases (show u 0 = 150 ∨ u 0 = 151 by omega) with h | h
    · have e1 : selF binT32L (.lit 0) 150 = pickE32 true := rfl
      have e2 : selF ([91, 92, 93, 94, 95, 96, 146, 147, 148, 149, 150, 151, 152].map fun k => (k, .lit 0)) (.lit 400) 150 = .lit 0 := rfl
      simp only [h, e1, e2]
      clear e1 e2
      simp_all [can32, nan32, x32, y32, o32, sign32, pickE32, tr, bi, no, un, Flt.u32, v, E.den, Bi.den, Un.den, b2i]
      all_goals (try (have hx := Int.not_le.2 (by assumption : (1 : Int) < fordI _ _ _); simp [hx]))
    · have e1 : selF binT32L (.lit 0) 151 = pickE32 false := rfl
      have e2 : selF ([91, 92, 93, 94, 95, 96, 146, 147, 148, 149, 150, 151, 152].map fun k => (k, .lit 0)) (.lit 400) 151 = .lit 0 := rfl
      simp only [h, e1, e2]
      clear e1 e2
      simp_all [can32, nan32, x32, y32, o32, sign32, pickE32, tr, bi, no, un, Flt.u32, v, E.den, Bi.den, Un.den, b2i]
      all_goals (try (have hx := Int.not_le.2 (by assumption : (1 : Int) < fordI _ _ _); simp [hx]))
  · intros
    rcases (show u 0 = 150 ∨ u 0 = 151 by omega) with h | h
    · have e1 : selF binT32L (.lit 0) 150 = pickE32 true := rfl
      have e2 : selF ([91, 92, 93, 94, 95, 96, 146, 147, 148, 149, 150, 151, 152].map fun k => (k, .lit 0)) (.lit 400) 150 = .lit 0 := rfl
      simp only [h, e1, e2]
      clear e1 e2
      simp_all [can32, nan32, x32, y32, o32, sign32, pickE32, tr, bi, no, un, Flt.u32, v, E.den, Bi.den, Un.den, b2i]
      all_goals (try (have hx := Int.not_le.2 (by assumption : (1 : Int) < fordI _ _ _); simp [hx]))
    · have e1 : selF binT32L (.lit 0) 151 = pickE32 false := rfl
      have e2 : selF ([91, 92, 93, 94, 95, 96, 146, 147, 148, 149, 150, 151, 152].map fun k => (k, .lit 0)) (.lit 400) 151 = .lit 0 := rfl
      simp only [h, e1, e2]
      clear e1 e2
      simp_all [can32, nan32, x32, y32, o32, sign32, pickE32, tr, bi, no, un, Flt.u32, v, E.den, Bi.den, Un.den, b2i]
      all_goals (try (have hx := Int.not_le.2 (by assumption : (1 : Int) < fordI _ _ _); simp [hx]))
  · intros
    have h : u 0 = 150 := by omega
    have e1 : selF binT32L (.lit 0) 150 = pickE32 true := rfl
    have e2 : selF ([91, 92, 93, 94, 95, 96, 146, 147, 148, 149, 150, 151, 152].map fun k => (k, .lit 0)) (.lit 400) 150 = .lit 0 := rfl
    simp only [h, e1, e2]
    clear e1 e2
    simp_all [can32, nan32, x32, y32, o32, sign32, pickE32, tr, bi, no, un, Flt.u32, v, E.den, Bi.den, Un.den, b2i]
    all_goals (try (have hx := Int.not_le.2 (by assumption : (1 : Int) < fordI _ _ _); simp [hx]))
  · intros
    exact absurd (by assumption) (pick32_ne _ (by assumption) (by assumption))
  · intros
    exact absurd (by assumption) (pick32_ne _ (by assumption) (by assumption))
  · intros
    have h : u 0 = 151 := by omega
    have e1 : selF binT32L (.lit 0) 151 = pickE32 false := rfl
    have e2 : selF ([91, 92, 93, 94, 95, 96, 146, 147, 148, 149, 150, 151, 152].map fun k => (k, .lit 0)) (.lit 400) 151 = .lit 0 := rfl
    simp only [h, e1, e2]
    clear e1 e2
    simp_all [can32, nan32, x32, y32, o32, sign32, pickE32, tr, bi, no, un, Flt.u32, v, E.den, Bi.den, Un.den, b2i]
    all_goals (try (have hx := Int.not_le.2 (by assumption : (1 : Int) < fordI _ _ _); simp [hx]))
  · intros
    exact absurd (by assumption) (pick32_ne _ (by assumption) (by assumption))
  · intros
    exact absurd (by assumption) (pick32_ne _ (by assumption) (by assumption))
  · intros
    have h : u 0 = 152 := by omega
    have e1 : selF binT32L (.lit 0) 152 = u32 (bi (.bits .or .i64) (bi (.bits .andNot .i64) (v 1) sign32) (bi (.bits .and .i64) (v 2) sign32)) := rfl
    have e2 : selF ([91, 92, 93, 94, 95, 96, 146, 147, 148, 149, 150, 151, 152].map fun k => (k, .lit 0)) (.lit 400) 152 = .lit 0 := rfl
    simp only [h, e1, e2]
    clear e1 e2
    simp_all [can32, nan32, x32, y32, o32, sign32, pickE32, tr, bi, no, un, Flt.u32, v, E.den, Bi.den, Un.den, b2i]
    all_goals (try (have hx := Int.not_le.2 (by assumption : (1 : Int) < fordI _ _ _); simp [hx]))
  · intros
    rw [selF_none _ _ _ (by intro p hp; simp [binT32L] at hp; omega), selF_none _ _ _ (by intro p hp; simp at hp; omega)]
    exact ⟨rfl, rfl⟩
  · intros
    rw [selF_none _ _ _ (by intro p hp; simp [binT32L] at hp; omega), selF_none _ _ _ (by intro p hp; simp at hp; omega)]
    exact ⟨rfl, rfl⟩
  · intros
    rw [selF_none _ _ _ (by intro p hp; simp [binT32L] at hp; omega), selF_none _ _ _ (by intro p hp; simp at hp; omega)]
    exact ⟨rfl, rfl⟩
theorem bT (u : Nat → Int) : 0 ≤ (selF binT32L (.lit 0) (u 0)).den ⟨u, fnF⟩ ∧ (selF binT32L (.lit 0) (u 0)).den ⟨u, fnF⟩ ≤ 4294967295 := by
  have tt : ∀ c : E, 0 ≤ (tr c).den ⟨u, fnF⟩ ∧ (tr c).den ⟨u, fnF⟩ ≤ 4294967295 := fun c => by simp only [tr, E.den]; split <;> decide
  have cc : ∀ op, 0 ≤ (can32 (bi (.far op .f32) x32 y32)).den ⟨u, fnF⟩ ∧ (can32 (bi (.far op .f32) x32 y32)).den ⟨u, fnF⟩ ≤ 4294967295 := fun op => by
    simp only [can32, bi, nan32, E.den, Bi.den, b2i_ne, beq_iff_eq]
    split
    · decide
    · rename_i h; have := (far_good h).1; simp only [topF] at this; exact this
  have pp : ∀ g, 0 ≤ (pickE32 g).den ⟨u, fnF⟩ ∧ (pickE32 g).den ⟨u, fnF⟩ ≤ 4294967295 := fun g => by
    simp only [pickE32, bi, no, un, nan32, x32, y32, Flt.u32, v, E.den, Bi.den, Un.den, b2i_ne, beq_iff_eq]
    split
    · decide
    · split
      · decide
      · rename_i h1 h2
        have a1 := w32_in (u 1)
        have a2 := w32_in (u 2)
        rw [w32_eq] at *
        rw [w32_eq] at *
        have h1 : fordI .f32 (W32 (u 1)) (W32 (u 1)) = 0 := Classical.byContradiction fun c => h1 (by simp [b2i, c])
        have h2 : fordI .f32 (W32 (u 2)) (W32 (u 2)) = 0 := Classical.byContradiction fun c => h2 (by simp [b2i, c])
        rw [pick32 g a1 a2 (num_of_ford a1 h1) (num_of_ford a2 h2)]
        simp only [topF] at a1 a2
        cases g <;> simp only [if_true, Bool.false_eq_true, if_false] <;> split <;> omega
  have ll : ∀ e : E, 0 ≤ (Flt.u32 e).den ⟨u, fnF⟩ ∧ (Flt.u32 e).den ⟨u, fnF⟩ ≤ 4294967295 := fun e => of_kind (has_kind .u32 _)
  have rng : ∀ (l : List (Int × E)) (d : E) (n : Int), (∀ p ∈ l, 0 ≤ p.2.den ⟨u, fnF⟩ ∧ p.2.den ⟨u, fnF⟩ ≤ 4294967295) → (0 ≤ d.den ⟨u, fnF⟩ ∧ d.den ⟨u, fnF⟩ ≤ 4294967295) → 0 ≤ (selF l d n).den ⟨u, fnF⟩ ∧ (selF l d n).den ⟨u, fnF⟩ ≤ 4294967295 := by
    intro l d n
    induction l with
    | nil => exact fun _ h => h
    | cons p r ih =>
      intro h hd
      obtain ⟨k, e⟩ := p
      simp only [selF]
      by_cases hk : n = k
      · rw [if_pos hk]; exact h _ List.mem_cons_self
      · rw [if_neg hk]; exact ih (fun q hq => h q (List.mem_cons_of_mem _ hq)) hd
  refine rng _ _ _ (fun p hp => ?_) (by simp [E.den])
  simp only [binT32L, List.mem_cons, List.not_mem_nil, or_false] at hp
  rcases hp with rfl | rfl | rfl | rfl | rfl | rfl | rfl | rfl | rfl | rfl | rfl | rfl | rfl <;> first | exact tt _ | exact cc _ | exact pp _ | exact ll _
end Go.Proofs.Ytnodelimomljbaa.PlainOpT

