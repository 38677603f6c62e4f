/- The law's ways, in numbers alone. No condition. -/
import Derived.Test.YtdmdjhmaanhocaaDoorRunBitsRules
import Derived.Test.YtdmdjhmaanhocaaDoorPlCount
namespace Go.Proofs.YtdmdjhmaanhocaaDoor.PlainBitsRules
open Go Go.Sx Go.Proofs.YtdmdjhmaanhocaaDoor.RunBitsRules

theorem A0 (y : Int) : fnT 0 (IntKind.u64.wrap y) 64 0 = ((clzF 64 (pat 64 y) : Nat) : Int) := by
  show ((clzF 64 (pat 64 (IntKind.u64.wrap y)) : Nat) : Int) = _
  rw [pat_u64]
theorem A1 (y : Int) : (if b2i (decide (fnT 1 (IntKind.u64.wrap y) 64 0 < 64)) ≠ 0 then fnT 1 (IntKind.u64.wrap y) 64 0 else 64) = ((ctzF 64 (pat 64 y) : Nat) : Int) := by
  rw [ctz64_same]; exact fn11_start y 64
theorem den_min (ρ : Env) (a b : E) : (E.ite (.bin .lt a b) a b).den ρ = min (a.den ρ) (b.den ρ) := by
  simp only [E.den, Bi.den, b2i_ne, decide_eq_true_eq]
  split <;> omega
theorem A1' (y : Int) : min (fnT 1 (IntKind.u64.wrap y) 64 0) 64 = ((ctzF 64 (pat 64 y) : Nat) : Int) := by
  rw [← A1 y]; simp only [b2i_ne, decide_eq_true_eq]; split <;> omega
theorem A2 (y : Int) : fnT 2 (IntKind.u64.wrap y) 64 0 = ((popF 64 (pat 64 y) : Nat) : Int) := by
  show ((popF 64 (pat 64 (IntKind.u64.wrap y)) : Nat) : Int) = _
  rw [pat_u64]
theorem pat_ne {x : Int} (h1 : -9223372036854775808 ≤ x) (h2 : x ≤ 9223372036854775807) (hx : x ≠ 0) : pat 64 x ≠ 0 := fun h => hx (i64_of_pat h1 h2 (by decide) (by decide) (h.trans (pat_zero 64).symm))
theorem pat_neg {x : Int} (h : pat 64 x ≠ 0) : pat 64 (0 - x) = 2 ^ 64 - pat 64 x := by
  have h1 := pat64_mod x
  have h2 := pat64_mod (0 - x)
  have h3 := pat_lt 64 x
  omega
theorem one_bit {x : Int} (h : pat 64 x ≠ 0) : pat 64 (bitI .and .i64 x (IntKind.i64.wrap (0 - x))) = 2 ^ ctzF 64 (pat 64 x) := by
  rw [pand, pat_wrap (w := 64) (k := .i64) _ (Nat.le_refl _), pat_neg h, and_neg 64 _ (by omega) (pat_lt _ _)]
theorem bit_at {x : Int} (h : pat 64 x ≠ 0) : (x.fdiv (2 ^ min (((ctzF 64 (pat 64 x) : Nat) : Int)).toNat 64)) % 2 = 1 := by
  have hl := ctzF_lt 64 _ (by omega) (pat_lt 64 x)
  have e := (ctzF_low 64 _ h (pat_lt 64 x)).1
  refine (bit_shr (w := 64) (Int.natCast_nonneg _) (by omega) (by decide)).2 ?_
  rw [Nat.testBit_eq_decide_div_mod_eq, Int.toNat_natCast]
  exact decide_eq_true e
section
variable {n : Nat} (hn : n < 2 ^ 32)
include hn
theorem B0 : fnT 0 (n : Int) 32 0 = ((clzF 32 n : Nat) : Int) := by
  show ((clzF 32 (pat 32 (n : Int)) : Nat) : Int) = _
  rw [pat_small hn]
theorem B1 : (if b2i (decide (fnT 1 (n : Int) 64 0 < 32)) ≠ 0 then fnT 1 (n : Int) 64 0 else 32) = ((ctzF 32 n : Nat) : Int) := by
  have e : IntKind.u64.wrap (n : Int) = n := by rw [u64_wrap]; omega
  have h := ctz32_same (n : Int)
  rw [e] at h
  rw [h, show fnT 11 (n : Int) 32 0 = ((ctzF 32 (pat 32 (n : Int)) : Nat) : Int) from fn11_start _ 32, pat_small hn]
theorem B1' : min (fnT 1 (n : Int) 64 0) 32 = ((ctzF 32 n : Nat) : Int) := by
  rw [← B1 hn]; simp only [b2i_ne, decide_eq_true_eq]; split <;> omega
theorem B2 : fnT 2 (n : Int) 64 0 = ((popF 32 n : Nat) : Int) := by
  show ((popF 64 (pat 64 (n : Int)) : Nat) : Int) = _
  rw [pat_small (Nat.lt_of_lt_of_le hn (by decide)), popF_small hn]
theorem B3 (y : Int) : fnT 3 (n : Int) 32 y = ((rotF 32 n (y % 32).toNat : Nat) : Int) := by
  show ((rotF 32 (pat 32 (n : Int)) (y % 32).toNat : Nat) : Int) = _
  rw [pat_small hn]
theorem p64 : pat 64 (n : Int) = n := pat_small (Nat.lt_of_lt_of_le hn (by decide))
variable (h0 : n ≠ 0)
include h0
theorem B4 : fnT 2 (IntKind.u32.wrap (bitI .and .i64 (n : Int) (0 - (n : Int)))) 64 0 = 1 := by
  have hp : pat 64 (n : Int) ≠ 0 := by rw [p64 hn]; exact h0
  have e1 : pat 64 (bitI .and .i64 (n : Int) (0 - (n : Int))) = 2 ^ ctzF 64 n := by
    rw [pand, pat_neg hp, p64 hn, and_neg 64 n (by omega) (by omega)]
  have hl := ctzF_lt 32 n (by omega) hn
  have em := ctz_min 32 32 n
  rw [Nat.mod_eq_of_lt hn, show 32 + 32 = 64 from rfl] at em
  have e2 : ctzF 64 n = ctzF 32 n := by omega
  have e3 : pat 64 (IntKind.u32.wrap (bitI .and .i64 (n : Int) (0 - (n : Int)))) = 2 ^ ctzF 32 n := by
    rw [pat_u32, ← pat_mod (w := 32) (v := 64) _ (by decide), e1, e2, Nat.mod_eq_of_lt (Nat.pow_lt_pow_right (by decide) hl)]
  show ((popF 64 (pat 64 (IntKind.u32.wrap (bitI .and .i64 (n : Int) (0 - (n : Int))))) : Nat) : Int) = 1
  rw [e3, popF_pow 64 _ (by omega)]; rfl
theorem B5 : ((n : Int).fdiv (2 ^ min (((ctzF 32 n : Nat) : Int)).toNat 64)) % 2 = 1 := by
  have hp : pat 64 (n : Int) ≠ 0 := by rw [p64 hn]; exact h0
  have h := bit_at hp
  have hl := ctzF_lt 32 n (by omega) hn
  have em := ctz_min 32 32 n
  rw [Nat.mod_eq_of_lt hn, show 32 + 32 = 64 from rfl] at em
  rw [p64 hn, show ctzF 64 n = ctzF 32 n by omega] at h
  exact h
end
theorem plain (u : Nat → Int) (h : KindOk u 0 [some .i64, some .i64, none]) : Law ⟨u, fnT⟩ lawR := by
  simp only [lawR, Law, chain, E.prop, ↓den_min, E.den, Bi.den, Un.den, i64_bits]
  obtain ⟨h1, h2⟩ := of_i64 h.1
  obtain ⟨n, hX, hn⟩ : ∃ n : Nat, IntKind.u32.wrap (u 0) = n ∧ n < 2 ^ 32 := ⟨(IntKind.u32.wrap (u 0)).toNat, by rw [u32_wrap]; omega, by rw [u32_wrap]; omega⟩
  have R1 : IntKind.i64.wrap (fnT 3 (IntKind.u64.wrap (fnT 3 (IntKind.u64.wrap (u 0)) 64 (u 1 % 64))) 64 (IntKind.i64.wrap (0 - u 1) % 64)) = u 0 := rot_back h1 h2 (by rw [i64_wrap]; omega)
  have R2 : fnT 2 (IntKind.u64.wrap (fnT 3 (IntKind.u64.wrap (u 0)) 64 (u 1 % 64))) 64 0 = fnT 2 (IntKind.u64.wrap (u 0)) 64 0 := by
    rw [A2, A2, fn3_pat', pat_u64, popF_rot (pat_lt _ _) (by omega)]
  have S1 : fnT 3 (fnT 3 (n : Int) 32 (u 1 % 32)) 32 (IntKind.i64.wrap (0 - u 1) % 32) = n := by
    rw [B3 hn, B3 (rotF_lt _ _ _), rotF_back hn (by omega) (by omega) (by rw [i64_wrap]; omega)]
  have S2 : fnT 2 (fnT 3 (n : Int) 32 (u 1 % 32)) 64 0 = fnT 2 (n : Int) 64 0 := by
    rw [B3 hn, B2 (rotF_lt _ _ _), B2 hn, popF_rot hn (by omega)]
  have hl := pat_lt 64 (u 0)
  have W : ¬ u 0 = 0 → ((popF 64 (pat 64 (bitI .and .i64 (u 0) (IntKind.i64.wrap (0 - u 0)))) : Nat) : Int) = 1 ∧ ((clzF 64 (pat 64 (u 0)) : Nat) : Int) + ((ctzF 64 (pat 64 (u 0)) : Nat) : Int) < 64 ∧
      ((popF 64 (pat 64 (u 0)) : Nat) : Int) ≤ 64 - ((clzF 64 (pat 64 (u 0)) : Nat) : Int) - ((ctzF 64 (pat 64 (u 0)) : Nat) : Int) ∧ ((u 0).fdiv (2 ^ min (((ctzF 64 (pat 64 (u 0)) : Nat) : Int)).toNat 64)) % 2 = 1 := fun hx => by
    have hp := pat_ne h1 h2 hx
    have hb := popF_between hp hl
    refine ⟨?_, by omega, by omega, bit_at hp⟩
    rw [one_bit hp, popF_pow 64 _ (ctzF_lt 64 _ (by omega) hl)]; rfl
  have Z : u 0 = 0 → fnT 3 (IntKind.u64.wrap (u 0)) 64 (u 1 % 64) = 0 ∧ pat 64 (u 0) = 0 ∧ pat 64 (bitI .and .i64 (u 0) (IntKind.i64.wrap (0 - u 0))) = 0 := fun hx => by
    refine ⟨?_, by rw [hx, pat_zero], by rw [pand, hx, pat_zero, Nat.zero_and]⟩
    rw [fn3_64, hx]
    show ((rotF 64 (pat 64 0) _ : Nat) : Int) = 0
    rw [pat_zero, rotF_zero]; rfl
  have V : ¬ n = 0 → fnT 2 (IntKind.u32.wrap (bitI .and .i64 (n : Int) (0 - (n : Int)))) 64 0 = 1 ∧ ((clzF 32 n : Nat) : Int) + ((ctzF 32 n : Nat) : Int) < 32 ∧
      ((popF 32 n : Nat) : Int) ≤ 32 - ((clzF 32 n : Nat) : Int) - ((ctzF 32 n : Nat) : Int) ∧ ((n : Int).fdiv (2 ^ min (((ctzF 32 n : Nat) : Int)).toNat 64)) % 2 = 1 := fun hx => by
    have hb := popF_between hx hn
    exact ⟨B4 hn hx, by omega, by omega, B5 hn hx⟩
  simp only [hX, R1, R2, S1, S2, A0, A1', A2, B0 hn, B1' hn, B2 hn]
  have hcast : ((n : Int) = 0) = (n = 0) := by apply propext; omega
  simp only [hcast]
  by_cases hx : u 0 = 0
  · obtain ⟨z1, z2, z3⟩ := Z hx
    simp only [z1, z2, z3, clzF_zero, ctzF_zero, popF_zero]
    simp only [hx]
    by_cases h0 : n = 0
    · subst h0
      have y1 : fnT 3 (((0 : Nat)) : Int) 32 (u 1 % 32) = 0 := by rw [B3 hn, rotF_zero]; rfl
      have y2 : fnT 2 (IntKind.u32.wrap (bitI .and .i64 (((0 : Nat)) : Int) (0 - (((0 : Nat)) : Int)))) 64 0 = 0 := rfl
      simp only [y1, y2, clzF_zero, ctzF_zero, popF_zero]
      simp
    · obtain ⟨v1, v2, v3, v4⟩ := V h0
      simp only [v1, v4]
      simp [h0, v2, v3]
  · obtain ⟨w1, w2, w3, w4⟩ := W hx
    by_cases h0 : n = 0
    · subst h0
      have y1 : fnT 3 (((0 : Nat)) : Int) 32 (u 1 % 32) = 0 := by rw [B3 hn, rotF_zero]; rfl
      have y2 : fnT 2 (IntKind.u32.wrap (bitI .and .i64 (((0 : Nat)) : Int) (0 - (((0 : Nat)) : Int)))) 64 0 = 0 := rfl
      simp only [y1, y2, clzF_zero, ctzF_zero, popF_zero, w1, w4]
      simp [hx, w2, w3]
    · obtain ⟨v1, v2, v3, v4⟩ := V h0
      simp only [w1, v1, w4, v4]
      simp [hx, h0, w2, w3, v2, v3]
end Go.Proofs.YtdmdjhmaanhocaaDoor.PlainBitsRules
