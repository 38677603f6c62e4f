/- The law's ways, in numbers alone. No condition. -/
import Derived.Test.YtdmdjhmaanhocaaDoorRunI64Counts
import Derived.Test.YtdmdjhmaanhocaaDoorPlCount
namespace Go.Proofs.YtdmdjhmaanhocaaDoor.PlainI64Counts
open Go Go.Sx Go.Proofs.YtdmdjhmaanhocaaDoor.RunI64Counts

theorem A0 (y : Int) : fnT 0 (IntKind.u64.wrap y) 64 0 = ((clzF 64 (pat 64 y) : Nat) : Int) := by
  show ((clzF 64 (pat 64 (IntKind.u64.wrap y)) : Nat) : Int) = _
  rw [pat_u64]
theorem A1 (y : Int) : (if b2i (decide (fnT 1 (IntKind.u64.wrap y) 64 0 < 64)) ≠ 0 then fnT 1 (IntKind.u64.wrap y) 64 0 else 64) = ((ctzF 64 (pat 64 y) : Nat) : Int) := by
  rw [ctz64_same]; exact fn11_start y 64
theorem A2 (y : Int) : fnT 2 (IntKind.u64.wrap y) 64 0 = ((popF 64 (pat 64 y) : Nat) : Int) := by
  show ((popF 64 (pat 64 (IntKind.u64.wrap y)) : Nat) : Int) = _
  rw [pat_u64]
theorem pat_ne {x : Int} (h1 : -9223372036854775808 ≤ x) (h2 : x ≤ 9223372036854775807) (hx : x ≠ 0) : pat 64 x ≠ 0 := fun h => hx (i64_of_pat h1 h2 (by decide) (by decide) (h.trans (pat_zero 64).symm))
theorem plain (u : Nat → Int) (h : KindOk u 0 [some .i64, some .i64]) : Law ⟨u, fnT⟩ lawR := by
  simp only [lawR, Law, chain, E.prop, E.den, Bi.den, Un.den, i64_bits, u64_bits]
  obtain ⟨h1, h2⟩ := of_i64 h.1
  have F1 : fnT 2 (IntKind.u64.wrap (fnT 3 (IntKind.u64.wrap (u 0)) 64 ((u 1) % 64 % 64 % 64))) 64 0 = fnT 2 (IntKind.u64.wrap (u 0)) 64 0 := by
    rw [A2, A2, fn3_pat', pat_u64, popF_rot (pat_lt _ _) (by omega)]
  by_cases hx : (u 0) = 0
  · simp only [F1]
    simp only [A0, A1, A2, hx, pat_zero, clzF_zero, ctzF_zero, popF_zero]
    simp [b2i]
  · have hn := pat_ne h1 h2 hx
    have hlt := pat_lt 64 (u 0)
    obtain ⟨c1, c2, c3⟩ := clzF_top 64 _ hn hlt
    have d1 := popF_between hn hlt
    have F2 : fnT 0 (IntKind.u64.wrap (IntKind.i64.wrap ((u 0) * 2 ^ min (fnT 0 (IntKind.u64.wrap (u 0)) 64 0 % 64).toNat 64))) 64 0 = 0 := by
      rw [A0, A0, pat_wrap (w := 64) (k := .i64) _ (Nat.le_refl _)]
      have e : (((clzF 64 (pat 64 (u 0)) : Nat) : Int) % 64).toNat = clzF 64 (pat 64 (u 0)) := by omega
      rw [e, Nat.min_eq_left (by omega)]
      have e2 : pat 64 ((u 0) * 2 ^ clzF 64 (pat 64 (u 0))) = pat 64 (u 0) * 2 ^ clzF 64 (pat 64 (u 0)) % 2 ^ 64 := by
        rw [← pat_nat, Int.natCast_mul]
        apply pat_congr
        rw [Int.mul_emod, Int.mul_emod ((pat 64 (u 0) : Nat) : Int), pat_cast, Int.emod_emod]
        simp [Int.natCast_pow]
      rw [e2, clzF_shifted hn hlt]; rfl
    have F3 : ∀ D, D = IntKind.u64.wrap ((IntKind.u64.wrap (u 0)).fdiv (2 ^ min ((if b2i (decide (fnT 1 (IntKind.u64.wrap (u 0)) 64 0 < 64)) ≠ 0 then fnT 1 (IntKind.u64.wrap (u 0)) 64 0 else 64) % 64).toNat 64)) →
        (if b2i (decide (fnT 1 D 64 0 < 64)) ≠ 0 then fnT 1 D 64 0 else 64) = 0 := fun D hD => by
      subst hD
      rw [A1, A1]
      have e : (((ctzF 64 (pat 64 (u 0)) : Nat) : Int) % 64).toNat = ctzF 64 (pat 64 (u 0)) := by omega
      rw [e, Nat.min_eq_left (by omega), Int.fdiv_eq_ediv_of_nonneg _ (Int.le_of_lt (Int.pow_pos (by decide)))]
      have e2 : IntKind.u64.wrap (u 0) / 2 ^ ctzF 64 (pat 64 (u 0)) = ((pat 64 (u 0) / 2 ^ ctzF 64 (pat 64 (u 0)) : Nat) : Int) := by
        rw [u64_wrap, pat64_mod]; simp [Int.natCast_pow]
      rw [e2, pat_small (Nat.lt_of_le_of_lt (Nat.div_le_self _ _) hlt), ctzF_shifted hn hlt]; rfl
    have F3 := F3 _ rfl
    have F4 : 1 ≤ fnT 2 (IntKind.u64.wrap (u 0)) 64 0 := by rw [A2]; exact Int.ofNat_le.2 (popF_pos 64 _ hn hlt)
    have F5 : fnT 2 (IntKind.u64.wrap (u 0)) 64 0 ≤ 64 - fnT 0 (IntKind.u64.wrap (u 0)) 64 0 - (if b2i (decide (fnT 1 (IntKind.u64.wrap (u 0)) 64 0 < 64)) ≠ 0 then fnT 1 (IntKind.u64.wrap (u 0)) 64 0 else 64) := by
      rw [A2, A0, A1]; omega
    refine ⟨fun h => absurd h hx, fun h => absurd h hx, fun h => absurd h hx, fun h => absurd h hx, fun h => absurd h hx, fun _ h => absurd F1.symm h, by simp [hx, b2i], fun _ _ _ _ _ _ => F5, fun _ _ _ _ _ h => absurd F4 (by omega), fun _ _ _ _ h => absurd F3 h, fun _ _ _ h => absurd F2 h, trivial⟩
end Go.Proofs.YtdmdjhmaanhocaaDoor.PlainI64Counts
