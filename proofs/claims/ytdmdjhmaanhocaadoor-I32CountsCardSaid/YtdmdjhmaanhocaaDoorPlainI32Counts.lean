/- The law's ways, in numbers alone. No condition. -/
import Derived.Test.YtdmdjhmaanhocaaDoorRunI32Counts
import Derived.Test.YtdmdjhmaanhocaaDoorPlCount
namespace Go.Proofs.YtdmdjhmaanhocaaDoor.PlainI32Counts
open Go Go.Sx Go.Proofs.YtdmdjhmaanhocaaDoor.RunI32Counts

section
variable {n : Nat} (hn : n < 2 ^ 32)
include hn
theorem B0 : fnT 0 (n : Int) 32 0 = ((clzF 32 n : Nat) : Int) := by
  show ((clzF 32 (pat 32 (n : Int)) : Nat) : Int) = _
  rw [pat_small hn]
theorem B1 : (if b2i (decide (fnT 1 (n : Int) 64 0 < 32)) ≠ 0 then fnT 1 (n : Int) 64 0 else 32) = ((ctzF 32 n : Nat) : Int) := by
  have e : IntKind.u64.wrap (n : Int) = n := by rw [u64_wrap]; omega
  have h := ctz32_same (n : Int)
  rw [e] at h
  rw [h, show fnT 11 (n : Int) 32 0 = ((ctzF 32 (pat 32 (n : Int)) : Nat) : Int) from fn11_start _ 32, pat_small hn]
theorem B2 : fnT 2 (n : Int) 64 0 = ((popF 32 n : Nat) : Int) := by
  show ((popF 64 (pat 64 (n : Int)) : Nat) : Int) = _
  rw [pat_small (Nat.lt_of_lt_of_le hn (by decide)), popF_small hn]
theorem G1 (y : Int) : fnT 2 (fnT 3 (n : Int) 32 y) 64 0 = fnT 2 (n : Int) 64 0 := by
  have e : fnT 3 (n : Int) 32 y = ((rotF 32 n (y % 32).toNat : Nat) : Int) := by
    show ((rotF 32 (pat 32 (n : Int)) (y % 32).toNat : Nat) : Int) = _
    rw [pat_small hn]
  rw [e, B2 (rotF_lt _ _ _), B2 hn, popF_rot hn (by omega)]
variable (h0 : n ≠ 0)
include h0
theorem G2 : fnT 0 (IntKind.u32.wrap (IntKind.i64.wrap ((n : Int) * 2 ^ min (fnT 0 (n : Int) 32 0 % 32).toNat 64))) 32 0 = 0 := by
  obtain ⟨c1, _, _⟩ := clzF_top 32 n h0 hn
  rw [B0 hn, show (((clzF 32 n : Nat) : Int) % 32).toNat = clzF 32 n by omega, Nat.min_eq_left (by omega)]
  have e : IntKind.u32.wrap (IntKind.i64.wrap ((n : Int) * 2 ^ clzF 32 n)) = ((n * 2 ^ clzF 32 n % 2 ^ 32 : Nat) : Int) := by
    have w : ∀ n, IntKind.u32.wrap (IntKind.i64.wrap n) = n % 4294967296 := fun n => by rw [u32_wrap, i64_wrap]; omega
    rw [w]; simp [Int.natCast_emod]
  rw [e, B0 (Nat.mod_lt _ (by decide)), clzF_shifted h0 hn]; rfl
theorem G3 : ∀ D, D = IntKind.u64.wrap ((n : Int).fdiv (2 ^ min ((if b2i (decide (fnT 1 (n : Int) 64 0 < 32)) ≠ 0 then fnT 1 (n : Int) 64 0 else 32) % 32).toNat 64)) →
    (if b2i (decide (fnT 1 D 64 0 < 32)) ≠ 0 then fnT 1 D 64 0 else 32) = 0 := fun D hD => by
  have d1 := (popF_between h0 hn).1
  rw [B1 hn, show (((ctzF 32 n : Nat) : Int) % 32).toNat = ctzF 32 n by omega, Nat.min_eq_left (by omega), Int.fdiv_eq_ediv_of_nonneg _ (Int.le_of_lt (Int.pow_pos (by decide)))] at hD
  have e2 : (n : Int) / 2 ^ ctzF 32 n = ((n / 2 ^ ctzF 32 n : Nat) : Int) := by simp [Int.natCast_pow]
  have hq := Nat.div_le_self n (2 ^ ctzF 32 n)
  have hc := ctzF_shifted h0 hn
  rw [e2] at hD
  clear e2
  generalize n / 2 ^ ctzF 32 n = q at *
  rw [u64_wrap, Int.emod_eq_of_lt (by omega) (by omega)] at hD
  subst hD
  rw [B1 (by omega), hc]; rfl
theorem G4 : 1 ≤ fnT 2 (n : Int) 64 0 := by rw [B2 hn]; exact Int.ofNat_le.2 (popF_pos 32 _ h0 hn)
theorem G5 : fnT 2 (n : Int) 64 0 ≤ 32 - fnT 0 (n : Int) 32 0 - (if b2i (decide (fnT 1 (n : Int) 64 0 < 32)) ≠ 0 then fnT 1 (n : Int) 64 0 else 32) := by
  have := popF_between h0 hn
  rw [B2 hn, B0 hn, B1 hn]; omega
end
theorem plain (u : Nat → Int) (_h : KindOk u 0 [some .i64, some .i64]) : Law ⟨u, fnT⟩ lawR := by
  simp only [lawR, Law, chain, E.prop, E.den, Bi.den, Un.den, i64_bits]
  obtain ⟨n, hX, hn⟩ : ∃ n : Nat, IntKind.u32.wrap (u 0) = n ∧ n < 2 ^ 32 := ⟨(IntKind.u32.wrap (u 0)).toNat, by rw [u32_wrap]; omega, by rw [u32_wrap]; omega⟩
  simp only [hX]
  have F1 := G1 hn (u 1 % 32 % 32 % 32)
  by_cases h0 : n = 0
  · simp only [F1]
    simp only [B0 hn, B1 hn, B2 hn]
    simp only [h0, clzF_zero, ctzF_zero, popF_zero]
    simp [b2i]
  · have hx : ¬ (n : Int) = 0 := by omega
    have F2 := G2 hn h0
    have F3 := G3 hn h0 _ rfl
    have F4 := G4 hn h0
    have F5 := G5 hn h0
    refine ⟨fun h => absurd h hx, fun h => absurd h hx, fun h => absurd h hx, fun h => absurd h hx, fun h => absurd h hx, fun _ h => absurd F1.symm h, fun _ _ h => absurd (by simp [b2i, h0]) h, fun _ _ _ _ _ _ => F5, fun _ _ _ _ _ h => absurd F4 (by omega), fun _ _ _ _ h => absurd F3 h, fun _ _ _ h => absurd F2 h, trivial⟩
end Go.Proofs.YtdmdjhmaanhocaaDoor.PlainI32Counts
