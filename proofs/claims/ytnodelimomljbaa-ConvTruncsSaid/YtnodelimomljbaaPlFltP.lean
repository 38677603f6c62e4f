/- Floats that are cut toward nought: what the code finds, by a least and a most. No condition. -/
import Derived.Test.YtnodelimomljbaaPlFltO
import Derived.Test.YtnodelimomljbaaPlFltK
namespace Go.Sx
open Go Ieee

theorem or63 {d : Int} (h : 0 ≤ d ∧ d < 9223372036854775808) : bitI .or .u64 d 9223372036854775808 = d + 9223372036854775808 := by
  unfold bitI
  have e : (BitVec.ofInt IntKind.u64.bits d ||| BitVec.ofInt IntKind.u64.bits 9223372036854775808).toNat = (d + 9223372036854775808).toNat := by
    show (BitVec.ofInt 64 d ||| BitVec.ofInt 64 9223372036854775808).toNat = _
    rw [BitVec.toNat_or, ofInt_nat, show (BitVec.ofInt 64 9223372036854775808).toNat = 2 ^ 63 * 1 by decide, Nat.or_comm, ← Nat.two_pow_add_eq_or_of_lt (by omega)]; omega
  simp only [e]
  rw [w64_eq]; unfold W64; omega
theorem whole_inf {x : Int} (hx : 0 ≤ x ∧ x ≤ topF .f64) (h : mg .f64 x = kI .f64) : fwholeI .zero x = x := by
  rw [(fwhole_word (way := .zero) hx (by omega)).1]
  unfold rgW
  rw [if_pos h, h, kI64]
  unfold mg at h
  rw [kM64, kI64] at h
  unfold sg
  split <;> split at h <;> omega
/-- a least and a most: the words, and their numbers -/
structure Ends (lw lo hw hi : Int) : Prop where
  l1 : 0 ≤ lw ∧ lw ≤ topF .f64
  l2 : mg .f64 lw < kI .f64
  l3 : ∃ a : Nat, val Ieee.double (mg .f64 lw).toNat = a * 2 ^ c1074 ∧ lo = if kM .f64 ≤ lw then -(a : Int) else a
  h1 : 0 ≤ hw ∧ hw < kI .f64
  h2 : ∃ b : Nat, val Ieee.double hw.toNat = b * 2 ^ c1074 ∧ hi = b
  h3 : hi ≤ 18446744073709551616
theorem cut_in {X lw lo hw hi : Int} (hX : 0 ≤ X ∧ X ≤ topF .f64) (hn : mg .f64 X ≤ kI .f64) (E : Ends lw lo hw hi) :
    (fordI .f64 (fwholeI .zero X) lw = 1 → ftruncI .f64 X < lo ∨ hi ≤ ftruncI .f64 X) ∧
    (¬ fordI .f64 (fwholeI .zero X) lw = 1 → (fordI .f64 (fwholeI .zero X) hw = 2 ∨ fordI .f64 (fwholeI .zero X) hw = 0) → hi ≤ ftruncI .f64 X) ∧
    (¬ fordI .f64 (fwholeI .zero X) lw = 1 → ¬ (fordI .f64 (fwholeI .zero X) hw = 2 ∨ fordI .f64 (fwholeI .zero X) hw = 0) → lo ≤ ftruncI .f64 X ∧ ftruncI .f64 X < hi ∧ ftruncI .f64 (fwholeI .zero X) = ftruncI .f64 X) := by
  obtain ⟨l1, l2, ⟨a, la, le⟩, h1, ⟨b, hb, he⟩, h3⟩ := E
  have t : topF .f64 = 18446744073709551615 := rfl
  have hM : kM .f64 = 9223372036854775808 := rfl
  have hI : kI .f64 = 9218868437227405312 := rfl
  have hh : 0 ≤ hw ∧ hw ≤ topF .f64 := by omega
  have hm : mg .f64 hw = hw := by unfold mg; rw [if_neg (by omega)]
  have h4 : mg .f64 hw < kI .f64 := by rw [hm]; omega
  rcases Int.lt_or_eq_of_le hn with hf | hf
  · have o1 := cut_ford hX hf l1 l2 la
    have o2 := cut_ford hX hf hh h4 (by rw [hm]; exact hb)
    rw [← le] at o1
    rw [if_neg (show ¬ kM .f64 ≤ hw by omega), ← he] at o2
    rw [o1, o2, trunc_cut hX hf]
    refine ⟨fun h => ?_, fun h g => ?_, fun h g => ⟨?_, ?_, rfl⟩⟩
    · left
      by_cases c : ftruncI .f64 X = lo
      · rw [if_pos c] at h; exact absurd h (by decide)
      · rw [if_neg c] at h
        by_cases c2 : ftruncI .f64 X < lo
        · exact c2
        · rw [if_neg c2] at h; exact absurd h (by decide)
    · by_cases c : ftruncI .f64 X = hi
      · omega
      · rw [if_neg c] at g
        by_cases c2 : ftruncI .f64 X < hi
        · rw [if_pos c2] at g; rcases g with g | g <;> exact absurd g (by decide)
        · omega
    · by_cases c2 : ftruncI .f64 X < lo
      · exfalso; rw [if_neg (by omega), if_pos c2] at h; exact h rfl
      · omega
    · by_cases c2 : ftruncI .f64 X < hi
      · exact c2
      · exfalso
        by_cases c : ftruncI .f64 X = hi
        · rw [if_pos c] at g; exact g (.inr rfl)
        · rw [if_neg c, if_neg c2] at g; exact g (.inl rfl)
  · have big := trunc_inf hX hf
    rw [whole_inf hX hf]
    have o1 := ford_eq hX l1
    have o2 := ford_eq hX hh
    rw [if_neg (by omega)] at o1 o2
    have k1 := ky_x hX
    have k2 := ky_x l1
    have k3 := ky_x hh
    have p1 := (mg_pos l1).1
    rw [hf] at k1
    by_cases hs : 9223372036854775808 ≤ X
    · rw [if_pos hs] at k1
      have : fordI .f64 X lw = 1 := by
        rw [o1]
        have : ky .f64 X < ky .f64 lw := by rw [k1, k2]; split <;> omega
        rw [if_neg (by omega), if_pos this]
      exact ⟨fun _ => .inr (by omega), fun h => absurd this h, fun h => absurd this h⟩
    · rw [if_neg hs] at k1
      have e1 : fordI .f64 X lw = 2 := by
        rw [o1]
        have : ky .f64 lw < ky .f64 X := by rw [k1, k2]; split <;> omega
        rw [if_neg (by omega), if_neg (by omega)]
      have e2 : fordI .f64 X hw = 2 := by
        rw [o2]
        have : ky .f64 hw < ky .f64 X := by rw [k1, k3, hm]; split <;> omega
        rw [if_neg (by omega), if_neg (by omega)]
      exact ⟨fun h => absurd h (by rw [e1]; decide), fun _ _ => by omega, fun _ g => absurd (.inl e2) g⟩
theorem ends_s32 : Ends 13970166044103278592 (-2147483648) 4746794007248502784 2147483648 := ⟨by decide, by decide, ⟨2147483648, val31, by decide⟩, by decide, ⟨2147483648, val31, rfl⟩, by decide⟩
theorem ends_u32 : Ends 0 0 4751297606875873280 4294967296 := ⟨by decide, by decide, ⟨0, val0, by decide⟩, by decide, ⟨4294967296, val32, rfl⟩, by decide⟩
theorem ends_s64 : Ends 14114281232179134464 (-9223372036854775808) 4890909195324358656 9223372036854775808 := ⟨by decide, by decide, ⟨9223372036854775808, val63, by decide⟩, by decide, ⟨9223372036854775808, val63, rfl⟩, by decide⟩
theorem ends_u64 : Ends 0 0 4895412794951729152 18446744073709551616 := ⟨by decide, by decide, ⟨0, val0, by decide⟩, by decide, ⟨18446744073709551616, val64, rfl⟩, by decide⟩
/-- of those without sign: below 2^63, and above -/
theorem cut_63 {X : Int} (hX : 0 ≤ X ∧ X ≤ topF .f64) (hn : mg .f64 X ≤ kI .f64) (h1 : ¬ fordI .f64 (fwholeI .zero X) 0 = 1) (h2 : ¬ (fordI .f64 (fwholeI .zero X) 4895412794951729152 = 2 ∨ fordI .f64 (fwholeI .zero X) 4895412794951729152 = 0)) :
    (fordI .f64 (fwholeI .zero X) 4890909195324358656 = 1 → ftruncI .f64 X < 9223372036854775808) ∧
    (¬ fordI .f64 (fwholeI .zero X) 4890909195324358656 = 1 → ¬ farI .sub .f64 (fwholeI .zero X) 4890909195324358656 = -1 ∧ 9223372036854775808 ≤ ftruncI .f64 X ∧ ftruncI .f64 (farI .sub .f64 (fwholeI .zero X) 4890909195324358656) = ftruncI .f64 X - 9223372036854775808) := by
  obtain ⟨b1, b2, _⟩ := (cut_in hX hn ends_u64).2.2 h1 h2
  rcases Int.lt_or_eq_of_le hn with hf | hf
  · have o := cut_ford hX hf (y := 4890909195324358656) (by decide) (by decide) (b := 9223372036854775808) val63
    have e0 : (if kM .f64 ≤ 4890909195324358656 then -((9223372036854775808 : Nat) : Int) else ((9223372036854775808 : Nat) : Int)) = 9223372036854775808 := by decide
    rw [e0] at o
    rw [o]
    by_cases c : ftruncI .f64 X < 9223372036854775808
    · exact ⟨fun _ => c, fun h => absurd (by rw [if_neg (by omega), if_pos (by omega)]) h⟩
    · obtain ⟨s1, s2⟩ := sub63 hX hf (by omega) b2
      refine ⟨fun h => ?_, fun _ => ⟨by omega, by omega, s2⟩⟩
      exfalso
      by_cases c2 : ftruncI .f64 X = 9223372036854775808
      · rw [if_pos c2] at h; exact absurd h (by decide)
      · rw [if_neg c2, if_neg (by omega)] at h; exact absurd h (by decide)
  · have := trunc_inf hX hf; omega
end Go.Sx
