/- The law BitsDiv of numbers alone: on every way of the code the answer is true. No condition but that both are numbers of 64 bits. -/
import Derived.Test.YtdmdjhmaanhocaaRunBitsDiv
import Derived.Test.YtdmdjhmaanhocaaPlNum
namespace Go.Proofs.Ytdmdjhmaanhocaa.BitsDiv
open Go Go.Sx
theorem plain (u : Nat → Int) (fn : Nat → Int → Int) (h0 : (kindIv .i64).has (u 0)) (h1 : (kindIv .i64).has (u 1)) : Law ⟨u, fn⟩ ls := by
  have b0 := of_kind h0
  have b1 := of_kind h1
  simp only at b0 b1
  generalize hx : u 0 = x at *
  generalize hy : u 1 = y at *
  have key : y ≠ 0 → y % 18446744073709551616 ≠ 0 := by omega
  simp only [ls, Law, chain, E.prop, E.den, Un.den, Bi.den, hx, hy, u64_wrap]
  refine ⟨?_, ?_, ?_, ?_, ?_, trivial⟩
  · intro h; simp
  all_goals intro hy0
  all_goals have hb := key hy0
  all_goals
    have ha0 : 0 ≤ x % 18446744073709551616 := by omega
    have ha1 : x % 18446744073709551616 < 18446744073709551616 := by omega
    have hb0 : 0 < y % 18446744073709551616 := by omega
    have hb1 : y % 18446744073709551616 < 18446744073709551616 := by omega
  · intro _ _ _
    have hq0 := Int.ediv_nonneg ha0 (Int.le_of_lt hb0)
    have hq1 := Int.ediv_le_self (y % 18446744073709551616) ha0
    have hz : (x % 18446744073709551616 < y % 18446744073709551616) ↔ x % 18446744073709551616 / (y % 18446744073709551616) = 0 := by
      constructor
      · intro h; exact Int.ediv_eq_zero_of_lt ha0 h
      · intro h
        have h1 := Int.mul_ediv_add_emod (x % 18446744073709551616) (y % 18446744073709551616)
        have h2 := Int.emod_lt_of_pos (x % 18446744073709551616) hb0
        rw [h] at h1
        omega
    congr 1
    rw [Bool.eq_iff_iff, decide_eq_true_eq, beq_iff_eq, hz, i64_wrap]
    omega
  all_goals
    have hr0 := Int.emod_nonneg (x % 18446744073709551616) (show y % 18446744073709551616 ≠ 0 by omega)
    have hr1 := Int.emod_lt_of_pos (x % 18446744073709551616) hb0
  · intro _ _ h
    have hle := Int.mul_ediv_add_emod (x % 18446744073709551616) (y % 18446744073709551616)
    have hm := Int.mul_nonneg (Int.le_of_lt hb0) (Int.ediv_nonneg ha0 (Int.le_of_lt hb0))
    omega
  · intro _ h; omega
  · intro h; exact (h (div_back b0.1 b0.2 hb)).elim
end Go.Proofs.Ytdmdjhmaanhocaa.BitsDiv
