/- What the contracts of the counts and rolls ask of numbers. No condition. -/
import Derived.Test.YtdmdjhmaanhocaaDoorPlTab
namespace Go.Sx
open Go

theorem i64_bits : IntKind.i64.bits = 64 := rfl
theorem u64_bits : IntKind.u64.bits = 64 := rfl
theorem u32_bits : IntKind.u32.bits = 32 := rfl
theorem pat_small {w n : Nat} (h : n < 2 ^ w) : pat w (n : Int) = n := by rw [pat_nat, Nat.mod_eq_of_lt h]
/-- cut off below a place -/
theorem pat_cut {w i : Nat} (x : Int) (h : i ≤ w) : pat w (x / ((2 ^ i : Nat) : Int) * ((2 ^ i : Nat) : Int)) = pat w x / 2 ^ i * 2 ^ i := by
  have e : x / ((2 ^ i : Nat) : Int) * ((2 ^ i : Nat) : Int) = x - x % ((2 ^ i : Nat) : Int) := by
    have := Int.mul_ediv_add_emod x ((2 ^ i : Nat) : Int)
    rw [Int.mul_comm]; omega
  have e2 : pat w x / 2 ^ i * 2 ^ i = pat w x - pat w x % 2 ^ i := by
    have := Nat.div_add_mod (pat w x) (2 ^ i)
    rw [Nat.mul_comm] at this; omega
  have hm : pat w x % 2 ^ i = pat i x := pat_mod x h
  rw [e, e2, hm]
  have h1 : pat i x ≤ pat w x := by rw [← hm]; exact Nat.mod_le _ _
  apply Int.ofNat_inj.1
  rw [pat_cast, Int.ofNat_sub h1, pat_cast, pat_cast]
  have h2 := Int.emod_nonneg x (show ((2 ^ i : Nat) : Int) ≠ 0 by have := pow_pos' i; omega)
  have h3 : x % ((2 ^ i : Nat) : Int) ≤ x % ((2 ^ w : Nat) : Int) := by rw [← pat_cast, ← pat_cast]; omega
  have h4 := Int.emod_lt_of_pos x (pow_pos' w)
  have h5 := Int.mul_ediv_add_emod x ((2 ^ w : Nat) : Int)
  conv => lhs; rw [← h5]
  rw [show ((2 ^ w : Nat) : Int) * (x / ((2 ^ w : Nat) : Int)) + x % ((2 ^ w : Nat) : Int) - (((2 ^ w : Nat) : Int) * (x / ((2 ^ w : Nat) : Int)) + x % ((2 ^ w : Nat) : Int)) % ((2 ^ i : Nat) : Int) = (x % ((2 ^ w : Nat) : Int) - x % ((2 ^ i : Nat) : Int)) + ((2 ^ w : Nat) : Int) * (x / ((2 ^ w : Nat) : Int)) by rw [h5]; omega]
  rw [Int.add_mul_emod_self_left, Int.emod_eq_of_lt (by omega) (by omega)]
theorem and_low {y w : Int} (hw : w = 32 ∨ w = 64) : bitI .and .i64 y (w + -1) = y % w := by
  rw [bitI_and, i64_bits]
  rcases hw with rfl | rfl
  · rw [show pat 64 (32 + -1) = 2 ^ 5 - 1 from rfl, Nat.and_two_pow_sub_one_eq_mod, pat_mod y (by decide), pat_cast]
    rw [i64_in (by omega) (by omega)]; rfl
  · rw [show pat 64 (64 + -1) = 2 ^ 6 - 1 from rfl, Nat.and_two_pow_sub_one_eq_mod, pat_mod y (by decide), pat_cast]
    rw [i64_in (by omega) (by omega)]; rfl
theorem or_or {a b c r : Int} (h : pat 64 b ||| pat 64 c = pat 64 r) : bitI .or .i64 (bitI .or .i64 a b) c = bitI .or .i64 a r := by
  rw [bitI_or, bitI_or .i64 a r, show IntKind.i64.bits = 64 from rfl]
  have := pat_or .i64 a b
  rw [i64_bits] at this
  rw [this, Nat.or_assoc, h]
theorem or_none {a : Int} (h1 : -9223372036854775808 ≤ a) (h2 : a ≤ 9223372036854775807) : bitI .or .i64 a (IntKind.i64.wrap 0) = a := by
  rw [bitI_or, i64_bits, show pat 64 (IntKind.i64.wrap 0) = 0 from rfl, Nat.or_zero, pat_i64_self h1 h2]
theorem pat_one_shl {m : Nat} (h : m < 64) : pat 64 (IntKind.i64.wrap (1 * 2 ^ min m 64)) = 2 ^ m := by
  rw [pat_wrap (w := 64) (k := .i64) _ (Nat.le_refl _), Nat.min_eq_left (by omega), Int.one_mul, show ((2 : Int) ^ m) = ((2 ^ m : Nat) : Int) by simp, pat_small (Nat.pow_lt_pow_right (by decide) h)]
theorem fn3_pat {x w y : Int} (hw : w = 32 ∨ w = 64) : pat 64 (IntKind.i64.wrap (fnT 3 x w y)) = rotF w.toNat (pat w.toNat x) (y % w).toNat := by
  rw [pat_wrap (w := 64) (k := .i64) _ (Nat.le_refl _)]
  simp only [fnT]
  exact pat_small (Nat.lt_of_lt_of_le (rotF_lt _ _ _) (Nat.pow_le_pow_right (by decide) (by rcases hw with rfl | rfl <;> decide)))
theorem fn14_pat {x w i : Int} (_h0 : 0 ≤ i) (h1 : i ≤ w) : pat w.toNat (fnT 14 x i 0) = pat w.toNat x / 2 ^ i.toNat * 2 ^ i.toNat := by
  have := pat_cut (w := w.toNat) (i := i.toNat) x (by omega)
  simp only [fnT]
  simpa using this
/-- the reference's roll: one round -/
theorem rot_round {x y w i a : Int} (hw : w = 32 ∨ w = 64) (h0 : 0 ≤ i) (h1 : i < w) (hb : (x.fdiv (2 ^ min i.toNat 64)) % 2 = 1) :
    bitI .or .i64 (bitI .or .i64 a (IntKind.i64.wrap (1 * 2 ^ min (bitI .and .i64 (IntKind.i64.wrap (i + bitI .and .i64 y (w + -1))) (w + -1)).toNat 64))) (IntKind.i64.wrap (fnT 3 (fnT 14 x (i + 1) 0) w y)) = bitI .or .i64 a (IntKind.i64.wrap (fnT 3 (fnT 14 x i 0) w y)) := by
  apply or_or
  rw [fn3_pat hw, fn3_pat hw, fn14_pat (by omega) (by omega), fn14_pat h0 (by omega), and_low hw, and_low hw]
  have hyw : 0 ≤ y % w := Int.emod_nonneg _ (by omega)
  have hyw2 : y % w < w := Int.emod_lt_of_pos _ (by omega)
  rw [i64_in (n := i + y % w) (by omega) (by omega)]
  have e1 : ((i + y % w) % w).toNat = (i.toNat + (y % w).toNat) % w.toNat := by
    apply Int.ofNat_inj.1
    rw [Int.toNat_of_nonneg (Int.emod_nonneg _ (by omega)), Int.natCast_emod, Int.natCast_add, Int.toNat_of_nonneg h0, Int.toNat_of_nonneg hyw, Int.toNat_of_nonneg (by omega)]
  rw [e1, pat_one_shl (Nat.lt_of_lt_of_le (Nat.mod_lt _ (by omega)) (by omega)), show (i + 1).toNat = i.toNat + 1 by omega]
  exact rot_one (pat_lt _ _) (by omega) (by omega) ((bit_shr h0 h1 (by omega)).1 hb)
theorem rot_skip {x y w i a : Int} (hw : w = 32 ∨ w = 64) (h0 : 0 ≤ i) (h1 : i < w) (hb : ¬ (x.fdiv (2 ^ min i.toNat 64)) % 2 = 1) :
    bitI .or .i64 a (IntKind.i64.wrap (fnT 3 (fnT 14 x (i + 1) 0) w y)) = bitI .or .i64 a (IntKind.i64.wrap (fnT 3 (fnT 14 x i 0) w y)) := by
  rw [bitI_or, bitI_or, i64_bits, fn3_pat hw, fn3_pat hw, fn14_pat (by omega) (by omega), fn14_pat h0 (by omega), show (i + 1).toNat = i.toNat + 1 by omega]
  have hb' : (pat w.toNat x).testBit i.toNat = false := by
    cases h : (pat w.toNat x).testBit i.toNat with
    | false => rfl
    | true => exact absurd ((bit_shr h0 h1 (by omega)).2 h) hb
  rw [rot_none hb']
theorem rotF_zero (w k : Nat) : rotF w 0 k = 0 := by simp [rotF]
theorem rot_done {x y w i a : Int} (hw : w = 32 ∨ w = 64) (h1 : i = w) (ha1 : -9223372036854775808 ≤ a) (ha2 : a ≤ 9223372036854775807) :
    bitI .or .i64 a (IntKind.i64.wrap (fnT 3 (fnT 14 x i 0) w y)) = a := by
  subst h1
  have : fnT 3 (fnT 14 x i 0) i y = 0 := by
    have e := fn14_pat (x := x) (show 0 ≤ i by omega) (Int.le_refl i)
    rw [Nat.div_eq_of_lt (pat_lt _ _), Nat.zero_mul] at e
    show ((rotF i.toNat (pat i.toNat (fnT 14 x i 0)) (y % i).toNat : Nat) : Int) = 0
    rw [e, rotF_zero]; rfl
  rw [this, or_none ha1 ha2]

/-! ### lengths by a table -/
theorem clzF_low : ∀ (d v n : Nat), n < 2 ^ v → clzF (d + v) n = d + clzF v n
  | 0, v, n, _ => by simp
  | d + 1, v, n, h => by
    rw [show d + 1 + v = d + v + 1 by omega]
    have : n.testBit (d + v) = false := Nat.testBit_lt_two_pow (Nat.lt_of_lt_of_le h (Nat.pow_le_pow_right (by decide) (by omega)))
    simp only [clzF, this, clzF_low d v n h]
    simp; omega
theorem clzF_high : ∀ (v s n : Nat), n / 2 ^ s ≠ 0 → n / 2 ^ s < 2 ^ v → clzF (v + s) n = clzF v (n / 2 ^ s)
  | 0, s, n, h, h' => absurd (by simpa using h') h
  | v + 1, s, n, h, h' => by
    rw [show v + 1 + s = v + s + 1 by omega]
    have e : (n / 2 ^ s).testBit v = n.testBit (v + s) := Nat.testBit_div_two_pow n v
    simp only [clzF, e]
    split
    · rfl
    · rename_i hb
      rw [clzF_high v s n h ?_]
      have hb' : (n / 2 ^ s).testBit v = false := by rw [e]; simpa using hb
      rw [Nat.testBit_eq_decide_div_mod_eq] at hb'
      simp only [decide_eq_false_iff_not] at hb'
      have h4 : n / 2 ^ s / 2 ^ v < 2 := (Nat.div_lt_iff_lt_mul (Nat.two_pow_pos _)).2 (by rw [Nat.mul_comm, ← Nat.pow_succ]; exact h')
      have h5 : n / 2 ^ s / 2 ^ v = 0 := by
        generalize n / 2 ^ s / 2 ^ v = q at *; omega
      exact (Nat.div_eq_zero_iff_lt (Nat.two_pow_pos _)).1 h5
theorem clz_by {w s n : Nat} (hw : 8 + s ≤ w) (hn : n < 2 ^ (8 + s)) (h : n / 2 ^ s ≠ 0 ∨ s = 0) : clzF w n = w - (8 + s) + clzF 8 (n / 2 ^ s) := by
  have e := clzF_low (w - (8 + s)) (8 + s) n hn
  rw [Nat.sub_add_cancel hw] at e
  rw [e]
  congr 1
  rcases h with h | h
  · exact clzF_high 8 s n h ((Nat.div_lt_iff_lt_mul (Nat.two_pow_pos _)).2 (by rw [← Nat.pow_add]; exact hn))
  · subst h; simp
def len8 : List Nat := [0, 1, 2, 2, 3, 3, 3, 3, 4, 4, 4, 4, 4, 4, 4, 4, 5, 5, 5, 5, 5, 5, 5, 5, 5, 5, 5, 5, 5, 5, 5, 5, 6, 6, 6, 6, 6, 6, 6, 6, 6, 6, 6, 6, 6, 6, 6, 6, 6, 6, 6, 6, 6, 6, 6, 6, 6, 6, 6, 6, 6, 6, 6, 6, 7, 7, 7, 7, 7, 7, 7, 7, 7, 7, 7, 7, 7, 7, 7, 7, 7, 7, 7, 7, 7, 7, 7, 7, 7, 7, 7, 7, 7, 7, 7, 7, 7, 7, 7, 7, 7, 7, 7, 7, 7, 7, 7, 7, 7, 7, 7, 7, 7, 7, 7, 7, 7, 7, 7, 7, 7, 7, 7, 7, 7, 7, 7, 7, 8, 8, 8, 8, 8, 8, 8, 8, 8, 8, 8, 8, 8, 8, 8, 8, 8, 8, 8, 8, 8, 8, 8, 8, 8, 8, 8, 8, 8, 8, 8, 8, 8, 8, 8, 8, 8, 8, 8, 8, 8, 8, 8, 8, 8, 8, 8, 8, 8, 8, 8, 8, 8, 8, 8, 8, 8, 8, 8, 8, 8, 8, 8, 8, 8, 8, 8, 8, 8, 8, 8, 8, 8, 8, 8, 8, 8, 8, 8, 8, 8, 8, 8, 8, 8, 8, 8, 8, 8, 8, 8, 8, 8, 8, 8, 8, 8, 8, 8, 8, 8, 8, 8, 8, 8, 8, 8, 8, 8, 8, 8, 8, 8, 8, 8, 8, 8, 8, 8, 8, 8, 8, 8, 8, 8, 8, 8, 8]
theorem len8_ok : ∀ n, n < 256 → len8.getD n 0 = 8 - clzF 8 n := by decide +kernel
/-- noughts above by the table, at a place s -/
theorem clz_tab {w s n : Nat} (hw : 8 + s ≤ w) (hn : n < 2 ^ (8 + s)) (h : n / 2 ^ s ≠ 0 ∨ s = 0) : (clzF w n : Int) = w - (len8.getD (n / 2 ^ s) 0 + s) := by
  have h1 : n / 2 ^ s < 256 := (Nat.div_lt_iff_lt_mul (Nat.two_pow_pos _)).2 (by rw [show 256 = 2 ^ 8 from rfl, ← Nat.pow_add]; exact hn)
  rw [clz_by hw hn h, len8_ok _ h1]
  have := clzF_le 8 (n / 2 ^ s)
  omega

/-! ### bit operations of numbers without sign -/
theorem and_u64 {a m : Nat} (hm : m < 2 ^ 64) : bitI .and .u64 (a : Int) (m : Int) = ((a &&& m : Nat) : Int) := by
  have e : pat 64 (a : Int) &&& pat 64 (m : Int) = a &&& m := by
    rw [pat_nat, pat_nat, ← Nat.and_mod_two_pow, Nat.mod_eq_of_lt (Nat.and_lt_two_pow a hm)]
  have h := Nat.and_lt_two_pow a hm
  rw [bitI_and, u64_bits, e, u64_wrap]; omega
theorem or_u64 {a b : Nat} (ha : a < 2 ^ 64) (hb : b < 2 ^ 64) : bitI .or .u64 (a : Int) (b : Int) = ((a ||| b : Nat) : Int) := by
  have h := Nat.or_lt_two_pow ha hb
  rw [bitI_or, u64_bits, pat_small ha, pat_small hb, u64_wrap]; omega
theorem u32_wrap (n : Int) : IntKind.u32.wrap n = n % 4294967296 := by simp [IntKind.wrap, IntKind.bits, IntKind.signed]
theorem or_u32 {a b : Nat} (ha : a < 2 ^ 32) (hb : b < 2 ^ 32) : bitI .or .u32 (a : Int) (b : Int) = ((a ||| b : Nat) : Int) := by
  have h := Nat.or_lt_two_pow ha hb
  rw [bitI_or, u32_bits, pat_small ha, pat_small hb, u32_wrap]; omega
theorem ones_by_halves (x : Nat) : popF 64 x = (let c := sw3 8 (sw2 8 (sw1 8 x)); let d := (c / 256 + c) % 2 ^ 64; let e := (d / 65536 + d) % 2 ^ 64; let f := (e / 4294967296 + e) % 2 ^ 64; f % 128) := by
  rw [swar_ones]; exact (onesCount x).symm
/-- the library's rolls -/
theorem rot64 {x y : Int} (h0 : 0 ≤ x) (h1 : x ≤ 18446744073709551615) : bitI .or .u64 (IntKind.u64.wrap (x * 2 ^ min (IntKind.u64.wrap y % 64).toNat 64)) (x.fdiv (2 ^ min (64 - IntKind.u64.wrap y % 64).toNat 64)) = fnT 3 x 64 y := by
  obtain ⟨n, rfl⟩ := Int.eq_ofNat_of_zero_le h0
  have hk : IntKind.u64.wrap y % 64 = y % 64 := by rw [u64_wrap]; omega
  rw [hk]
  have hy : 0 ≤ y % 64 := by omega
  obtain ⟨k, hk2⟩ := Int.eq_ofNat_of_zero_le hy
  have hk3 : k < 64 := by omega
  rw [hk2, show ((k : Int).toNat) = k by omega, show (64 - (k : Int)).toNat = 64 - k by omega, Nat.min_eq_left (by omega), Nat.min_eq_left (by omega), u64_wrap, Int.fdiv_eq_ediv_of_nonneg _ (Int.le_of_lt (Int.pow_pos (by decide)))]
  have e1 : ((n : Int) * 2 ^ k) % 18446744073709551616 = ((n * 2 ^ k % 2 ^ 64 : Nat) : Int) := by simp
  have e2 : (n : Int) / 2 ^ (64 - k) = ((n / 2 ^ (64 - k) : Nat) : Int) := by simp
  have hn : n < 2 ^ 64 := by omega
  rw [e1, e2, or_u64 (Nat.mod_lt _ (by decide)) (Nat.lt_of_le_of_lt (Nat.div_le_self _ _) hn), rot_shifts hn (by omega)]
  simp only [fnT, hk2, show ((64 : Int).toNat) = 64 from rfl, show ((k : Int).toNat) = k by omega, pat_small hn]
theorem rot32 {x y : Int} (h0 : 0 ≤ x) (h1 : x ≤ 4294967295) : bitI .or .u32 (IntKind.u32.wrap (x * 2 ^ min (IntKind.u64.wrap y % 32).toNat 32)) (x.fdiv (2 ^ min (32 - IntKind.u64.wrap y % 32).toNat 32)) = fnT 3 x 32 y := by
  obtain ⟨n, rfl⟩ := Int.eq_ofNat_of_zero_le h0
  have hk : IntKind.u64.wrap y % 32 = y % 32 := by rw [u64_wrap]; omega
  rw [hk]
  have hy : 0 ≤ y % 32 := by omega
  obtain ⟨k, hk2⟩ := Int.eq_ofNat_of_zero_le hy
  have hk3 : k < 32 := by omega
  rw [hk2, show ((k : Int).toNat) = k by omega, show (32 - (k : Int)).toNat = 32 - k by omega, Nat.min_eq_left (by omega), Nat.min_eq_left (by omega), u32_wrap, Int.fdiv_eq_ediv_of_nonneg _ (Int.le_of_lt (Int.pow_pos (by decide)))]
  have e1 : ((n : Int) * 2 ^ k) % 4294967296 = ((n * 2 ^ k % 2 ^ 32 : Nat) : Int) := by simp
  have e2 : (n : Int) / 2 ^ (32 - k) = ((n / 2 ^ (32 - k) : Nat) : Int) := by simp
  have hn : n < 2 ^ 32 := by omega
  rw [e1, e2, or_u32 (Nat.mod_lt _ (by decide)) (Nat.lt_of_le_of_lt (Nat.div_le_self _ _) hn), rot_shifts hn (by omega)]
  simp only [fnT, hk2, show ((32 : Int).toNat) = 32 from rfl, show ((k : Int).toNat) = k by omega, pat_small hn]
end Go.Sx
