/- Texts that a claim needs, put together: the engine, plain lemmas, contracts. No condition. -/
import Derived.Test.YtnodelimomljbaaMgc
import Derived.Test.YtnodelimomljbaaMgb
import Derived.KernelRfl

/- The reference's round, case B1, in numbers. No condition. -/
namespace Go.Proofs.Ytnodelimomljbaa.PlainRndB1
open Go Go.Sx Go.Sx.Flt Go.Sx.Ref Go.Proofs.Ytnodelimomljbaa.RunRndB1
set_option linter.unusedSimpArgs false
set_option linter.unusedVariables false
set_option maxHeartbeats 1000000 in
theorem plain (u : Nat → Int) (hk : KindOk u 0 rndB1.sp.ks) (hp : pcOk ⟨u, fnG⟩ rndB1.sp.pre) : Keeps ⟨u, fnG⟩ rndB1.sp.res rndB1R := by
  have h1 : 0 ≤ u 1 ∧ u 1 ≤ 18446744073709551615 := of_kind hk.2.1
  have h2 : 0 ≤ u 2 ∧ u 2 ≤ 18446744073709551615 := of_kind hk.2.2.1
  obtain ⟨q, hn⟩ : ∃ n : Nat, u 1 * 18446744073709551616 + u 2 = n := ⟨(u 1 * 18446744073709551616 + u 2).toNat, by omega⟩
  obtain ⟨K, hK⟩ : ∃ K, fnG 0 q 0 0 + -53 = K := ⟨_, rfl⟩
  obtain ⟨R, hR⟩ : ∃ R, fnG 4 q (u 3) 0 = R := ⟨_, rfl⟩
  have hL : fnG 0 q 0 0 = (lenN q : Int) := by simp only [fnG, Int.toNat_natCast]
  have q0 := hp _ (List.mem_cons_self)
  have q1 := hp _ (List.mem_cons_of_mem _ List.mem_cons_self)
  simp only [byA, byB, preB, lenE, f1, nn, w64, v, bi, E.den, Bi.den, b2i_ne, decide_eq_true_eq, hn, hL] at q0 q1
  have q0 : 0 ≤ (lenN q : Int) + -53 := by first | exact of_decide_eq_true q0 | exact q0
  have q1 : -1074 - u 3 ≤ (lenN q : Int) + -53 := by first | exact of_decide_eq_true q1 | exact q1
  have hT : 0 ≤ u 3 + K + 1074 := by omega
  have h0 : q = 0 → R = 0 := fun h => by rw [← hR]; simp only [fnG, Int.toNat_natCast]; rw [h]; unfold rungOf; simp
  have F3 : fnG 3 q K 0 = lost q K := by simp only [fnG, Int.toNat_natCast]
  have core : ¬ bitI .or .u64 (u 1) (u 2) = 0 → ∃ M : Nat, fnG 2 q K 0 = (M : Int) ∧ M < 9007199254740992 ∧ (M < 4503599627370496 → u 3 + K + 1074 = 0) ∧
      R = min ((u 3 + K + 1074) * 4503599627370496 + ((M : Int) + (if lost q K = 1 ∨ (lost q K = 0 ∧ M % 2 = 1) then 1 else 0))) 9218868437227405312 := by
    intro hne
    have hn0 : q ≠ 0 := fun h => hne ((or_null h1 h2).2 (by omega))
    have hr := rung_double hn0 (u 3) K (by omega)
    have hR' : R = ((rungOf Ieee.double q (u 3) : Nat) : Int) := by rw [← hR]; simp only [fnG, Int.toNat_natCast]
    rw [hr] at hR'
    rw [hR']
    obtain ⟨k, hkk⟩ : ∃ k : Nat, K = k := Int.eq_ofNat_of_zero_le (by omega)
    have e1 : (-K).toNat = 0 := by omega
    have e2 : K.toNat = k := by omega
    refine ⟨q / 2 ^ k, by simp only [fnG, Int.toNat_natCast, e2], ?_, ?_, ?_⟩
    · rw [Nat.div_lt_iff_lt_mul (Nat.two_pow_pos k)]
      have e : (9007199254740992 : Nat) * 2 ^ k = 2 ^ (53 + k) := by rw [Nat.pow_add]
      rw [e]
      exact (lenN_le q (53 + k)).1 (by omega)
    · intro hlo
      rcases Nat.lt_or_ge q (4503599627370496 * 2 ^ k) with h | h
      · have e : (4503599627370496 : Nat) * 2 ^ k = 2 ^ (52 + k) := by rw [Nat.pow_add]
        rw [e] at h
        have := (lenN_le q (52 + k)).2 h
        omega
      · have := (Nat.le_div_iff_mul_le (Nat.two_pow_pos k)).2 h
        omega
    · rw [e1, e2, Nat.pow_zero, Nat.mul_one, rne_lost, ← hkk]
      congr 2
      split <;> simp
  by_cases hz : u 0 = 0
  · have c1 : (b2i (b2i (u 0 == 0) == 0) ≠ 0) = False := by simp [hz, b2i]
    have c2 : (u 0 ≠ 0) = False := by simp [hz]
    simp only [rndB1, rndOf, rndD, rndB1R, Keeps, chain, unOne, List.length, SameL, f2, nn, w64, v, bi, un, E.prop, E.den, Bi.den, Un.den, hn, Nat.beq, c1, c2, if_false, if_true, hK, hR]
    refine ⟨?_, ?_, ?_, ?_, ?_, ?_, ?_, ?_, ?_, ?_, ?_, ?_, ?_, ?_, ?_, ?_, ?_, ?_, ?_, ?_, ?_, trivial⟩
    · intro a1 a2 a3 a4 a5
      have hz2 := (or_null h1 h2).1 a5
      exact ⟨trivial, by rw [h0 (by omega)]; rfl, trivial⟩
    · intro a1 a2 a3 a4 a5 a6 a7 a8 a9 b0 b1
      obtain ⟨M, f2, hi, lo, hr⟩ := core a5
      clear core
      have hu5 : u 5 = M := by rw [a7, f2, u64_wr]; omega
      have hc : lost q K = 1 := by rw [← F3, ← a8, a9]
      rw [if_pos (.inl hc)] at hr
      have hx : IntKind.u64.wrap (u 5 + 1) = (M : Int) + 1 := by rw [hu5, u64_wr]; omega
      obtain ⟨g1, g2, g3, g4, g5⟩ := five (s := 0) (I := 9218868437227405312) (by decide) (by decide) (by omega) hT (fun h => lo (by omega)) hr hx (E1 := u 3 + K + 1076) (by omega) (E2 := u 3 + K + 1075) (by omega)
      exact ⟨trivial, g1 b0 b1, trivial⟩
    · intro a1 a2 a3 a4 a5 a6 a7 a8 a9 b0 b1
      obtain ⟨M, f2, hi, lo, hr⟩ := core a5
      clear core
      have hu5 : u 5 = M := by rw [a7, f2, u64_wr]; omega
      have hc : lost q K = 1 := by rw [← F3, ← a8, a9]
      rw [if_pos (.inl hc)] at hr
      have hx : IntKind.u64.wrap (u 5 + 1) = (M : Int) + 1 := by rw [hu5, u64_wr]; omega
      obtain ⟨g1, g2, g3, g4, g5⟩ := five (s := 0) (I := 9218868437227405312) (by decide) (by decide) (by omega) hT (fun h => lo (by omega)) hr hx (E1 := u 3 + K + 1076) (by omega) (E2 := u 3 + K + 1075) (by omega)
      exact ⟨trivial, g2 b0 b1, trivial⟩
    · intro a1 a2 a3 a4 a5 a6 a7 a8 a9 b0 b1
      obtain ⟨M, f2, hi, lo, hr⟩ := core a5
      clear core
      have hu5 : u 5 = M := by rw [a7, f2, u64_wr]; omega
      have hc : lost q K = 1 := by rw [← F3, ← a8, a9]
      rw [if_pos (.inl hc)] at hr
      have hx : IntKind.u64.wrap (u 5 + 1) = (M : Int) + 1 := by rw [hu5, u64_wr]; omega
      obtain ⟨g1, g2, g3, g4, g5⟩ := five (s := 0) (I := 9218868437227405312) (by decide) (by decide) (by omega) hT (fun h => lo (by omega)) hr hx (E1 := u 3 + K + 1076) (by omega) (E2 := u 3 + K + 1075) (by omega)
      exact ⟨trivial, g3 b0 b1, trivial⟩
    · intro a1 a2 a3 a4 a5 a6 a7 a8 a9 b0 b1 b2
      obtain ⟨M, f2, hi, lo, hr⟩ := core a5
      clear core
      have hu5 : u 5 = M := by rw [a7, f2, u64_wr]; omega
      have hc : lost q K = 1 := by rw [← F3, ← a8, a9]
      rw [if_pos (.inl hc)] at hr
      have hx : IntKind.u64.wrap (u 5 + 1) = (M : Int) + 1 := by rw [hu5, u64_wr]; omega
      obtain ⟨g1, g2, g3, g4, g5⟩ := five (s := 0) (I := 9218868437227405312) (by decide) (by decide) (by omega) hT (fun h => lo (by omega)) hr hx (E1 := u 3 + K + 1076) (by omega) (E2 := u 3 + K + 1075) (by omega)
      exact ⟨trivial, g4 b0 b1 b2, trivial⟩
    · intro a1 a2 a3 a4 a5 a6 a7 a8 a9 b0 b1 b2
      obtain ⟨M, f2, hi, lo, hr⟩ := core a5
      clear core
      have hu5 : u 5 = M := by rw [a7, f2, u64_wr]; omega
      have hc : lost q K = 1 := by rw [← F3, ← a8, a9]
      rw [if_pos (.inl hc)] at hr
      have hx : IntKind.u64.wrap (u 5 + 1) = (M : Int) + 1 := by rw [hu5, u64_wr]; omega
      obtain ⟨g1, g2, g3, g4, g5⟩ := five (s := 0) (I := 9218868437227405312) (by decide) (by decide) (by omega) hT (fun h => lo (by omega)) hr hx (E1 := u 3 + K + 1076) (by omega) (E2 := u 3 + K + 1075) (by omega)
      exact ⟨trivial, g5 b0 b1 b2, trivial⟩
    · intro a1 a2 a3 a4 a5 a6 a7 a8 a9 a10 a11 b0 b1
      obtain ⟨M, f2, hi, lo, hr⟩ := core a5
      clear core
      have hu5 : u 5 = M := by rw [a7, f2, u64_wr]; omega
      have hc : lost q K = 0 := by rw [← F3, ← a8, a10]
      rw [if_pos (.inr ⟨hc, by rw [hu5] at a11; omega⟩)] at hr
      have hx : IntKind.u64.wrap (u 5 + 1) = (M : Int) + 1 := by rw [hu5, u64_wr]; omega
      obtain ⟨g1, g2, g3, g4, g5⟩ := five (s := 0) (I := 9218868437227405312) (by decide) (by decide) (by omega) hT (fun h => lo (by omega)) hr hx (E1 := u 3 + K + 1076) (by omega) (E2 := u 3 + K + 1075) (by omega)
      exact ⟨trivial, g1 b0 b1, trivial⟩
    · intro a1 a2 a3 a4 a5 a6 a7 a8 a9 a10 a11 b0 b1
      obtain ⟨M, f2, hi, lo, hr⟩ := core a5
      clear core
      have hu5 : u 5 = M := by rw [a7, f2, u64_wr]; omega
      have hc : lost q K = 0 := by rw [← F3, ← a8, a10]
      rw [if_pos (.inr ⟨hc, by rw [hu5] at a11; omega⟩)] at hr
      have hx : IntKind.u64.wrap (u 5 + 1) = (M : Int) + 1 := by rw [hu5, u64_wr]; omega
      obtain ⟨g1, g2, g3, g4, g5⟩ := five (s := 0) (I := 9218868437227405312) (by decide) (by decide) (by omega) hT (fun h => lo (by omega)) hr hx (E1 := u 3 + K + 1076) (by omega) (E2 := u 3 + K + 1075) (by omega)
      exact ⟨trivial, g2 b0 b1, trivial⟩
    · intro a1 a2 a3 a4 a5 a6 a7 a8 a9 a10 a11 b0 b1
      obtain ⟨M, f2, hi, lo, hr⟩ := core a5
      clear core
      have hu5 : u 5 = M := by rw [a7, f2, u64_wr]; omega
      have hc : lost q K = 0 := by rw [← F3, ← a8, a10]
      rw [if_pos (.inr ⟨hc, by rw [hu5] at a11; omega⟩)] at hr
      have hx : IntKind.u64.wrap (u 5 + 1) = (M : Int) + 1 := by rw [hu5, u64_wr]; omega
      obtain ⟨g1, g2, g3, g4, g5⟩ := five (s := 0) (I := 9218868437227405312) (by decide) (by decide) (by omega) hT (fun h => lo (by omega)) hr hx (E1 := u 3 + K + 1076) (by omega) (E2 := u 3 + K + 1075) (by omega)
      exact ⟨trivial, g3 b0 b1, trivial⟩
    · intro a1 a2 a3 a4 a5 a6 a7 a8 a9 a10 a11 b0 b1 b2
      obtain ⟨M, f2, hi, lo, hr⟩ := core a5
      clear core
      have hu5 : u 5 = M := by rw [a7, f2, u64_wr]; omega
      have hc : lost q K = 0 := by rw [← F3, ← a8, a10]
      rw [if_pos (.inr ⟨hc, by rw [hu5] at a11; omega⟩)] at hr
      have hx : IntKind.u64.wrap (u 5 + 1) = (M : Int) + 1 := by rw [hu5, u64_wr]; omega
      obtain ⟨g1, g2, g3, g4, g5⟩ := five (s := 0) (I := 9218868437227405312) (by decide) (by decide) (by omega) hT (fun h => lo (by omega)) hr hx (E1 := u 3 + K + 1076) (by omega) (E2 := u 3 + K + 1075) (by omega)
      exact ⟨trivial, g4 b0 b1 b2, trivial⟩
    · intro a1 a2 a3 a4 a5 a6 a7 a8 a9 a10 a11 b0 b1 b2
      obtain ⟨M, f2, hi, lo, hr⟩ := core a5
      clear core
      have hu5 : u 5 = M := by rw [a7, f2, u64_wr]; omega
      have hc : lost q K = 0 := by rw [← F3, ← a8, a10]
      rw [if_pos (.inr ⟨hc, by rw [hu5] at a11; omega⟩)] at hr
      have hx : IntKind.u64.wrap (u 5 + 1) = (M : Int) + 1 := by rw [hu5, u64_wr]; omega
      obtain ⟨g1, g2, g3, g4, g5⟩ := five (s := 0) (I := 9218868437227405312) (by decide) (by decide) (by omega) hT (fun h => lo (by omega)) hr hx (E1 := u 3 + K + 1076) (by omega) (E2 := u 3 + K + 1075) (by omega)
      exact ⟨trivial, g5 b0 b1 b2, trivial⟩
    · intro a1 a2 a3 a4 a5 a6 a7 a8 a9 a10 a11 b0 b1
      obtain ⟨M, f2, hi, lo, hr⟩ := core a5
      clear core
      have hu5 : u 5 = M := by rw [a7, f2, u64_wr]; omega
      have hc : lost q K = 0 := by rw [← F3, ← a8, a10]
      rw [if_neg (by rw [hu5] at a11; omega)] at hr
      have hx : u 5 = (M : Int) + 0 := by rw [hu5]; omega
      obtain ⟨g1, g2, g3, g4, g5⟩ := five (s := 0) (I := 9218868437227405312) (by decide) (by decide) (by omega) hT (fun h => lo (by omega)) hr hx (E1 := u 3 + K + 1076) (by omega) (E2 := u 3 + K + 1075) (by omega)
      exact ⟨trivial, g1 b0 b1, trivial⟩
    · intro a1 a2 a3 a4 a5 a6 a7 a8 a9 a10 a11 b0 b1
      obtain ⟨M, f2, hi, lo, hr⟩ := core a5
      clear core
      have hu5 : u 5 = M := by rw [a7, f2, u64_wr]; omega
      have hc : lost q K = 0 := by rw [← F3, ← a8, a10]
      rw [if_neg (by rw [hu5] at a11; omega)] at hr
      have hx : u 5 = (M : Int) + 0 := by rw [hu5]; omega
      obtain ⟨g1, g2, g3, g4, g5⟩ := five (s := 0) (I := 9218868437227405312) (by decide) (by decide) (by omega) hT (fun h => lo (by omega)) hr hx (E1 := u 3 + K + 1076) (by omega) (E2 := u 3 + K + 1075) (by omega)
      exact ⟨trivial, g2 b0 b1, trivial⟩
    · intro a1 a2 a3 a4 a5 a6 a7 a8 a9 a10 a11 b0 b1
      obtain ⟨M, f2, hi, lo, hr⟩ := core a5
      clear core
      have hu5 : u 5 = M := by rw [a7, f2, u64_wr]; omega
      have hc : lost q K = 0 := by rw [← F3, ← a8, a10]
      rw [if_neg (by rw [hu5] at a11; omega)] at hr
      have hx : u 5 = (M : Int) + 0 := by rw [hu5]; omega
      obtain ⟨g1, g2, g3, g4, g5⟩ := five (s := 0) (I := 9218868437227405312) (by decide) (by decide) (by omega) hT (fun h => lo (by omega)) hr hx (E1 := u 3 + K + 1076) (by omega) (E2 := u 3 + K + 1075) (by omega)
      exact ⟨trivial, g3 b0 b1, trivial⟩
    · intro a1 a2 a3 a4 a5 a6 a7 a8 a9 a10 a11 b0 b1 b2
      obtain ⟨M, f2, hi, lo, hr⟩ := core a5
      clear core
      have hu5 : u 5 = M := by rw [a7, f2, u64_wr]; omega
      have hc : lost q K = 0 := by rw [← F3, ← a8, a10]
      rw [if_neg (by rw [hu5] at a11; omega)] at hr
      have hx : u 5 = (M : Int) + 0 := by rw [hu5]; omega
      obtain ⟨g1, g2, g3, g4, g5⟩ := five (s := 0) (I := 9218868437227405312) (by decide) (by decide) (by omega) hT (fun h => lo (by omega)) hr hx (E1 := u 3 + K + 1076) (by omega) (E2 := u 3 + K + 1075) (by omega)
      exact ⟨trivial, g4 b0 b1 b2, trivial⟩
    · intro a1 a2 a3 a4 a5 a6 a7 a8 a9 a10 a11 b0 b1 b2
      obtain ⟨M, f2, hi, lo, hr⟩ := core a5
      clear core
      have hu5 : u 5 = M := by rw [a7, f2, u64_wr]; omega
      have hc : lost q K = 0 := by rw [← F3, ← a8, a10]
      rw [if_neg (by rw [hu5] at a11; omega)] at hr
      have hx : u 5 = (M : Int) + 0 := by rw [hu5]; omega
      obtain ⟨g1, g2, g3, g4, g5⟩ := five (s := 0) (I := 9218868437227405312) (by decide) (by decide) (by omega) hT (fun h => lo (by omega)) hr hx (E1 := u 3 + K + 1076) (by omega) (E2 := u 3 + K + 1075) (by omega)
      exact ⟨trivial, g5 b0 b1 b2, trivial⟩
    · intro a1 a2 a3 a4 a5 a6 a7 a8 a9 a10 b0 b1
      obtain ⟨M, f2, hi, lo, hr⟩ := core a5
      clear core
      have hu5 : u 5 = M := by rw [a7, f2, u64_wr]; omega
      have hc : ¬ lost q K = 0 ∧ ¬ lost q K = 1 := by rw [← F3, ← a8]; exact ⟨a10, a9⟩
      rw [if_neg (by omega)] at hr
      have hx : u 5 = (M : Int) + 0 := by rw [hu5]; omega
      obtain ⟨g1, g2, g3, g4, g5⟩ := five (s := 0) (I := 9218868437227405312) (by decide) (by decide) (by omega) hT (fun h => lo (by omega)) hr hx (E1 := u 3 + K + 1076) (by omega) (E2 := u 3 + K + 1075) (by omega)
      exact ⟨trivial, g1 b0 b1, trivial⟩
    · intro a1 a2 a3 a4 a5 a6 a7 a8 a9 a10 b0 b1
      obtain ⟨M, f2, hi, lo, hr⟩ := core a5
      clear core
      have hu5 : u 5 = M := by rw [a7, f2, u64_wr]; omega
      have hc : ¬ lost q K = 0 ∧ ¬ lost q K = 1 := by rw [← F3, ← a8]; exact ⟨a10, a9⟩
      rw [if_neg (by omega)] at hr
      have hx : u 5 = (M : Int) + 0 := by rw [hu5]; omega
      obtain ⟨g1, g2, g3, g4, g5⟩ := five (s := 0) (I := 9218868437227405312) (by decide) (by decide) (by omega) hT (fun h => lo (by omega)) hr hx (E1 := u 3 + K + 1076) (by omega) (E2 := u 3 + K + 1075) (by omega)
      exact ⟨trivial, g2 b0 b1, trivial⟩
    · intro a1 a2 a3 a4 a5 a6 a7 a8 a9 a10 b0 b1
      obtain ⟨M, f2, hi, lo, hr⟩ := core a5
      clear core
      have hu5 : u 5 = M := by rw [a7, f2, u64_wr]; omega
      have hc : ¬ lost q K = 0 ∧ ¬ lost q K = 1 := by rw [← F3, ← a8]; exact ⟨a10, a9⟩
      rw [if_neg (by omega)] at hr
      have hx : u 5 = (M : Int) + 0 := by rw [hu5]; omega
      obtain ⟨g1, g2, g3, g4, g5⟩ := five (s := 0) (I := 9218868437227405312) (by decide) (by decide) (by omega) hT (fun h => lo (by omega)) hr hx (E1 := u 3 + K + 1076) (by omega) (E2 := u 3 + K + 1075) (by omega)
      exact ⟨trivial, g3 b0 b1, trivial⟩
    · intro a1 a2 a3 a4 a5 a6 a7 a8 a9 a10 b0 b1 b2
      obtain ⟨M, f2, hi, lo, hr⟩ := core a5
      clear core
      have hu5 : u 5 = M := by rw [a7, f2, u64_wr]; omega
      have hc : ¬ lost q K = 0 ∧ ¬ lost q K = 1 := by rw [← F3, ← a8]; exact ⟨a10, a9⟩
      rw [if_neg (by omega)] at hr
      have hx : u 5 = (M : Int) + 0 := by rw [hu5]; omega
      obtain ⟨g1, g2, g3, g4, g5⟩ := five (s := 0) (I := 9218868437227405312) (by decide) (by decide) (by omega) hT (fun h => lo (by omega)) hr hx (E1 := u 3 + K + 1076) (by omega) (E2 := u 3 + K + 1075) (by omega)
      exact ⟨trivial, g4 b0 b1 b2, trivial⟩
    · intro a1 a2 a3 a4 a5 a6 a7 a8 a9 a10 b0 b1 b2
      obtain ⟨M, f2, hi, lo, hr⟩ := core a5
      clear core
      have hu5 : u 5 = M := by rw [a7, f2, u64_wr]; omega
      have hc : ¬ lost q K = 0 ∧ ¬ lost q K = 1 := by rw [← F3, ← a8]; exact ⟨a10, a9⟩
      rw [if_neg (by omega)] at hr
      have hx : u 5 = (M : Int) + 0 := by rw [hu5]; omega
      obtain ⟨g1, g2, g3, g4, g5⟩ := five (s := 0) (I := 9218868437227405312) (by decide) (by decide) (by omega) hT (fun h => lo (by omega)) hr hx (E1 := u 3 + K + 1076) (by omega) (E2 := u 3 + K + 1075) (by omega)
      exact ⟨trivial, g5 b0 b1 b2, trivial⟩
  · have c1 : (b2i (b2i (u 0 == 0) == 0) ≠ 0) = True := by simp [hz, b2i]
    have c2 : (u 0 ≠ 0) = True := by simp [hz]
    simp only [rndB1, rndOf, rndD, rndB1R, Keeps, chain, unOne, List.length, SameL, f2, nn, w64, v, bi, un, E.prop, E.den, Bi.den, Un.den, hn, Nat.beq, c1, c2, if_false, if_true, hK, hR]
    refine ⟨?_, ?_, ?_, ?_, ?_, ?_, ?_, ?_, ?_, ?_, ?_, ?_, ?_, ?_, ?_, ?_, ?_, ?_, ?_, ?_, ?_, trivial⟩
    · intro a1 a2 a3 a4 a5
      have hz2 := (or_null h1 h2).1 a5
      exact ⟨trivial, by rw [h0 (by omega)]; rfl, trivial⟩
    · intro a1 a2 a3 a4 a5 a6 a7 a8 a9 b0 b1
      obtain ⟨M, f2, hi, lo, hr⟩ := core a5
      clear core
      have hu5 : u 5 = M := by rw [a7, f2, u64_wr]; omega
      have hc : lost q K = 1 := by rw [← F3, ← a8, a9]
      rw [if_pos (.inl hc)] at hr
      have hx : IntKind.u64.wrap (u 5 + 1) = (M : Int) + 1 := by rw [hu5, u64_wr]; omega
      obtain ⟨g1, g2, g3, g4, g5⟩ := five (s := 9223372036854775808) (I := 18442240474082181120) (by decide) (by decide) (by omega) hT (fun h => lo (by omega)) hr hx (E1 := u 3 + K + 1076) (by omega) (E2 := u 3 + K + 1075) (by omega)
      exact ⟨trivial, g1 b0 b1, trivial⟩
    · intro a1 a2 a3 a4 a5 a6 a7 a8 a9 b0 b1
      obtain ⟨M, f2, hi, lo, hr⟩ := core a5
      clear core
      have hu5 : u 5 = M := by rw [a7, f2, u64_wr]; omega
      have hc : lost q K = 1 := by rw [← F3, ← a8, a9]
      rw [if_pos (.inl hc)] at hr
      have hx : IntKind.u64.wrap (u 5 + 1) = (M : Int) + 1 := by rw [hu5, u64_wr]; omega
      obtain ⟨g1, g2, g3, g4, g5⟩ := five (s := 9223372036854775808) (I := 18442240474082181120) (by decide) (by decide) (by omega) hT (fun h => lo (by omega)) hr hx (E1 := u 3 + K + 1076) (by omega) (E2 := u 3 + K + 1075) (by omega)
      exact ⟨trivial, g2 b0 b1, trivial⟩
    · intro a1 a2 a3 a4 a5 a6 a7 a8 a9 b0 b1
      obtain ⟨M, f2, hi, lo, hr⟩ := core a5
      clear core
      have hu5 : u 5 = M := by rw [a7, f2, u64_wr]; omega
      have hc : lost q K = 1 := by rw [← F3, ← a8, a9]
      rw [if_pos (.inl hc)] at hr
      have hx : IntKind.u64.wrap (u 5 + 1) = (M : Int) + 1 := by rw [hu5, u64_wr]; omega
      obtain ⟨g1, g2, g3, g4, g5⟩ := five (s := 9223372036854775808) (I := 18442240474082181120) (by decide) (by decide) (by omega) hT (fun h => lo (by omega)) hr hx (E1 := u 3 + K + 1076) (by omega) (E2 := u 3 + K + 1075) (by omega)
      exact ⟨trivial, g3 b0 b1, trivial⟩
    · intro a1 a2 a3 a4 a5 a6 a7 a8 a9 b0 b1 b2
      obtain ⟨M, f2, hi, lo, hr⟩ := core a5
      clear core
      have hu5 : u 5 = M := by rw [a7, f2, u64_wr]; omega
      have hc : lost q K = 1 := by rw [← F3, ← a8, a9]
      rw [if_pos (.inl hc)] at hr
      have hx : IntKind.u64.wrap (u 5 + 1) = (M : Int) + 1 := by rw [hu5, u64_wr]; omega
      obtain ⟨g1, g2, g3, g4, g5⟩ := five (s := 9223372036854775808) (I := 18442240474082181120) (by decide) (by decide) (by omega) hT (fun h => lo (by omega)) hr hx (E1 := u 3 + K + 1076) (by omega) (E2 := u 3 + K + 1075) (by omega)
      exact ⟨trivial, g4 b0 b1 b2, trivial⟩
    · intro a1 a2 a3 a4 a5 a6 a7 a8 a9 b0 b1 b2
      obtain ⟨M, f2, hi, lo, hr⟩ := core a5
      clear core
      have hu5 : u 5 = M := by rw [a7, f2, u64_wr]; omega
      have hc : lost q K = 1 := by rw [← F3, ← a8, a9]
      rw [if_pos (.inl hc)] at hr
      have hx : IntKind.u64.wrap (u 5 + 1) = (M : Int) + 1 := by rw [hu5, u64_wr]; omega
      obtain ⟨g1, g2, g3, g4, g5⟩ := five (s := 9223372036854775808) (I := 18442240474082181120) (by decide) (by decide) (by omega) hT (fun h => lo (by omega)) hr hx (E1 := u 3 + K + 1076) (by omega) (E2 := u 3 + K + 1075) (by omega)
      exact ⟨trivial, g5 b0 b1 b2, trivial⟩
    · intro a1 a2 a3 a4 a5 a6 a7 a8 a9 a10 a11 b0 b1
      obtain ⟨M, f2, hi, lo, hr⟩ := core a5
      clear core
      have hu5 : u 5 = M := by rw [a7, f2, u64_wr]; omega
      have hc : lost q K = 0 := by rw [← F3, ← a8, a10]
      rw [if_pos (.inr ⟨hc, by rw [hu5] at a11; omega⟩)] at hr
      have hx : IntKind.u64.wrap (u 5 + 1) = (M : Int) + 1 := by rw [hu5, u64_wr]; omega
      obtain ⟨g1, g2, g3, g4, g5⟩ := five (s := 9223372036854775808) (I := 18442240474082181120) (by decide) (by decide) (by omega) hT (fun h => lo (by omega)) hr hx (E1 := u 3 + K + 1076) (by omega) (E2 := u 3 + K + 1075) (by omega)
      exact ⟨trivial, g1 b0 b1, trivial⟩
    · intro a1 a2 a3 a4 a5 a6 a7 a8 a9 a10 a11 b0 b1
      obtain ⟨M, f2, hi, lo, hr⟩ := core a5
      clear core
      have hu5 : u 5 = M := by rw [a7, f2, u64_wr]; omega
      have hc : lost q K = 0 := by rw [← F3, ← a8, a10]
      rw [if_pos (.inr ⟨hc, by rw [hu5] at a11; omega⟩)] at hr
      have hx : IntKind.u64.wrap (u 5 + 1) = (M : Int) + 1 := by rw [hu5, u64_wr]; omega
      obtain ⟨g1, g2, g3, g4, g5⟩ := five (s := 9223372036854775808) (I := 18442240474082181120) (by decide) (by decide) (by omega) hT (fun h => lo (by omega)) hr hx (E1 := u 3 + K + 1076) (by omega) (E2 := u 3 + K + 1075) (by omega)
      exact ⟨trivial, g2 b0 b1, trivial⟩
    · intro a1 a2 a3 a4 a5 a6 a7 a8 a9 a10 a11 b0 b1
      obtain ⟨M, f2, hi, lo, hr⟩ := core a5
      clear core
      have hu5 : u 5 = M := by rw [a7, f2, u64_wr]; omega
      have hc : lost q K = 0 := by rw [← F3, ← a8, a10]
      rw [if_pos (.inr ⟨hc, by rw [hu5] at a11; omega⟩)] at hr
      have hx : IntKind.u64.wrap (u 5 + 1) = (M : Int) + 1 := by rw [hu5, u64_wr]; omega
      obtain ⟨g1, g2, g3, g4, g5⟩ := five (s := 9223372036854775808) (I := 18442240474082181120) (by decide) (by decide) (by omega) hT (fun h => lo (by omega)) hr hx (E1 := u 3 + K + 1076) (by omega) (E2 := u 3 + K + 1075) (by omega)
      exact ⟨trivial, g3 b0 b1, trivial⟩
    · intro a1 a2 a3 a4 a5 a6 a7 a8 a9 a10 a11 b0 b1 b2
      obtain ⟨M, f2, hi, lo, hr⟩ := core a5
      clear core
      have hu5 : u 5 = M := by rw [a7, f2, u64_wr]; omega
      have hc : lost q K = 0 := by rw [← F3, ← a8, a10]
      rw [if_pos (.inr ⟨hc, by rw [hu5] at a11; omega⟩)] at hr
      have hx : IntKind.u64.wrap (u 5 + 1) = (M : Int) + 1 := by rw [hu5, u64_wr]; omega
      obtain ⟨g1, g2, g3, g4, g5⟩ := five (s := 9223372036854775808) (I := 18442240474082181120) (by decide) (by decide) (by omega) hT (fun h => lo (by omega)) hr hx (E1 := u 3 + K + 1076) (by omega) (E2 := u 3 + K + 1075) (by omega)
      exact ⟨trivial, g4 b0 b1 b2, trivial⟩
    · intro a1 a2 a3 a4 a5 a6 a7 a8 a9 a10 a11 b0 b1 b2
      obtain ⟨M, f2, hi, lo, hr⟩ := core a5
      clear core
      have hu5 : u 5 = M := by rw [a7, f2, u64_wr]; omega
      have hc : lost q K = 0 := by rw [← F3, ← a8, a10]
      rw [if_pos (.inr ⟨hc, by rw [hu5] at a11; omega⟩)] at hr
      have hx : IntKind.u64.wrap (u 5 + 1) = (M : Int) + 1 := by rw [hu5, u64_wr]; omega
      obtain ⟨g1, g2, g3, g4, g5⟩ := five (s := 9223372036854775808) (I := 18442240474082181120) (by decide) (by decide) (by omega) hT (fun h => lo (by omega)) hr hx (E1 := u 3 + K + 1076) (by omega) (E2 := u 3 + K + 1075) (by omega)
      exact ⟨trivial, g5 b0 b1 b2, trivial⟩
    · intro a1 a2 a3 a4 a5 a6 a7 a8 a9 a10 a11 b0 b1
      obtain ⟨M, f2, hi, lo, hr⟩ := core a5
      clear core
      have hu5 : u 5 = M := by rw [a7, f2, u64_wr]; omega
      have hc : lost q K = 0 := by rw [← F3, ← a8, a10]
      rw [if_neg (by rw [hu5] at a11; omega)] at hr
      have hx : u 5 = (M : Int) + 0 := by rw [hu5]; omega
      obtain ⟨g1, g2, g3, g4, g5⟩ := five (s := 9223372036854775808) (I := 18442240474082181120) (by decide) (by decide) (by omega) hT (fun h => lo (by omega)) hr hx (E1 := u 3 + K + 1076) (by omega) (E2 := u 3 + K + 1075) (by omega)
      exact ⟨trivial, g1 b0 b1, trivial⟩
    · intro a1 a2 a3 a4 a5 a6 a7 a8 a9 a10 a11 b0 b1
      obtain ⟨M, f2, hi, lo, hr⟩ := core a5
      clear core
      have hu5 : u 5 = M := by rw [a7, f2, u64_wr]; omega
      have hc : lost q K = 0 := by rw [← F3, ← a8, a10]
      rw [if_neg (by rw [hu5] at a11; omega)] at hr
      have hx : u 5 = (M : Int) + 0 := by rw [hu5]; omega
      obtain ⟨g1, g2, g3, g4, g5⟩ := five (s := 9223372036854775808) (I := 18442240474082181120) (by decide) (by decide) (by omega) hT (fun h => lo (by omega)) hr hx (E1 := u 3 + K + 1076) (by omega) (E2 := u 3 + K + 1075) (by omega)
      exact ⟨trivial, g2 b0 b1, trivial⟩
    · intro a1 a2 a3 a4 a5 a6 a7 a8 a9 a10 a11 b0 b1
      obtain ⟨M, f2, hi, lo, hr⟩ := core a5
      clear core
      have hu5 : u 5 = M := by rw [a7, f2, u64_wr]; omega
      have hc : lost q K = 0 := by rw [← F3, ← a8, a10]
      rw [if_neg (by rw [hu5] at a11; omega)] at hr
      have hx : u 5 = (M : Int) + 0 := by rw [hu5]; omega
      obtain ⟨g1, g2, g3, g4, g5⟩ := five (s := 9223372036854775808) (I := 18442240474082181120) (by decide) (by decide) (by omega) hT (fun h => lo (by omega)) hr hx (E1 := u 3 + K + 1076) (by omega) (E2 := u 3 + K + 1075) (by omega)
      exact ⟨trivial, g3 b0 b1, trivial⟩
    · intro a1 a2 a3 a4 a5 a6 a7 a8 a9 a10 a11 b0 b1 b2
      obtain ⟨M, f2, hi, lo, hr⟩ := core a5
      clear core
      have hu5 : u 5 = M := by rw [a7, f2, u64_wr]; omega
      have hc : lost q K = 0 := by rw [← F3, ← a8, a10]
      rw [if_neg (by rw [hu5] at a11; omega)] at hr
      have hx : u 5 = (M : Int) + 0 := by rw [hu5]; omega
      obtain ⟨g1, g2, g3, g4, g5⟩ := five (s := 9223372036854775808) (I := 18442240474082181120) (by decide) (by decide) (by omega) hT (fun h => lo (by omega)) hr hx (E1 := u 3 + K + 1076) (by omega) (E2 := u 3 + K + 1075) (by omega)
      exact ⟨trivial, g4 b0 b1 b2, trivial⟩
    · intro a1 a2 a3 a4 a5 a6 a7 a8 a9 a10 a11 b0 b1 b2
      obtain ⟨M, f2, hi, lo, hr⟩ := core a5
      clear core
      have hu5 : u 5 = M := by rw [a7, f2, u64_wr]; omega
      have hc : lost q K = 0 := by rw [← F3, ← a8, a10]
      rw [if_neg (by rw [hu5] at a11; omega)] at hr
      have hx : u 5 = (M : Int) + 0 := by rw [hu5]; omega
      obtain ⟨g1, g2, g3, g4, g5⟩ := five (s := 9223372036854775808) (I := 18442240474082181120) (by decide) (by decide) (by omega) hT (fun h => lo (by omega)) hr hx (E1 := u 3 + K + 1076) (by omega) (E2 := u 3 + K + 1075) (by omega)
      exact ⟨trivial, g5 b0 b1 b2, trivial⟩
    · intro a1 a2 a3 a4 a5 a6 a7 a8 a9 a10 b0 b1
      obtain ⟨M, f2, hi, lo, hr⟩ := core a5
      clear core
      have hu5 : u 5 = M := by rw [a7, f2, u64_wr]; omega
      have hc : ¬ lost q K = 0 ∧ ¬ lost q K = 1 := by rw [← F3, ← a8]; exact ⟨a10, a9⟩
      rw [if_neg (by omega)] at hr
      have hx : u 5 = (M : Int) + 0 := by rw [hu5]; omega
      obtain ⟨g1, g2, g3, g4, g5⟩ := five (s := 9223372036854775808) (I := 18442240474082181120) (by decide) (by decide) (by omega) hT (fun h => lo (by omega)) hr hx (E1 := u 3 + K + 1076) (by omega) (E2 := u 3 + K + 1075) (by omega)
      exact ⟨trivial, g1 b0 b1, trivial⟩
    · intro a1 a2 a3 a4 a5 a6 a7 a8 a9 a10 b0 b1
      obtain ⟨M, f2, hi, lo, hr⟩ := core a5
      clear core
      have hu5 : u 5 = M := by rw [a7, f2, u64_wr]; omega
      have hc : ¬ lost q K = 0 ∧ ¬ lost q K = 1 := by rw [← F3, ← a8]; exact ⟨a10, a9⟩
      rw [if_neg (by omega)] at hr
      have hx : u 5 = (M : Int) + 0 := by rw [hu5]; omega
      obtain ⟨g1, g2, g3, g4, g5⟩ := five (s := 9223372036854775808) (I := 18442240474082181120) (by decide) (by decide) (by omega) hT (fun h => lo (by omega)) hr hx (E1 := u 3 + K + 1076) (by omega) (E2 := u 3 + K + 1075) (by omega)
      exact ⟨trivial, g2 b0 b1, trivial⟩
    · intro a1 a2 a3 a4 a5 a6 a7 a8 a9 a10 b0 b1
      obtain ⟨M, f2, hi, lo, hr⟩ := core a5
      clear core
      have hu5 : u 5 = M := by rw [a7, f2, u64_wr]; omega
      have hc : ¬ lost q K = 0 ∧ ¬ lost q K = 1 := by rw [← F3, ← a8]; exact ⟨a10, a9⟩
      rw [if_neg (by omega)] at hr
      have hx : u 5 = (M : Int) + 0 := by rw [hu5]; omega
      obtain ⟨g1, g2, g3, g4, g5⟩ := five (s := 9223372036854775808) (I := 18442240474082181120) (by decide) (by decide) (by omega) hT (fun h => lo (by omega)) hr hx (E1 := u 3 + K + 1076) (by omega) (E2 := u 3 + K + 1075) (by omega)
      exact ⟨trivial, g3 b0 b1, trivial⟩
    · intro a1 a2 a3 a4 a5 a6 a7 a8 a9 a10 b0 b1 b2
      obtain ⟨M, f2, hi, lo, hr⟩ := core a5
      clear core
      have hu5 : u 5 = M := by rw [a7, f2, u64_wr]; omega
      have hc : ¬ lost q K = 0 ∧ ¬ lost q K = 1 := by rw [← F3, ← a8]; exact ⟨a10, a9⟩
      rw [if_neg (by omega)] at hr
      have hx : u 5 = (M : Int) + 0 := by rw [hu5]; omega
      obtain ⟨g1, g2, g3, g4, g5⟩ := five (s := 9223372036854775808) (I := 18442240474082181120) (by decide) (by decide) (by omega) hT (fun h => lo (by omega)) hr hx (E1 := u 3 + K + 1076) (by omega) (E2 := u 3 + K + 1075) (by omega)
      exact ⟨trivial, g4 b0 b1 b2, trivial⟩
    · intro a1 a2 a3 a4 a5 a6 a7 a8 a9 a10 b0 b1 b2
      obtain ⟨M, f2, hi, lo, hr⟩ := core a5
      clear core
      have hu5 : u 5 = M := by rw [a7, f2, u64_wr]; omega
      have hc : ¬ lost q K = 0 ∧ ¬ lost q K = 1 := by rw [← F3, ← a8]; exact ⟨a10, a9⟩
      rw [if_neg (by omega)] at hr
      have hx : u 5 = (M : Int) + 0 := by rw [hu5]; omega
      obtain ⟨g1, g2, g3, g4, g5⟩ := five (s := 9223372036854775808) (I := 18442240474082181120) (by decide) (by decide) (by omega) hT (fun h => lo (by omega)) hr hx (E1 := u 3 + K + 1076) (by omega) (E2 := u 3 + K + 1075) (by omega)
      exact ⟨trivial, g5 b0 b1 b2, trivial⟩
end Go.Proofs.Ytnodelimomljbaa.PlainRndB1

/- The contracts of the reference's floats hold: numbers of 128 bits, the words of a format, rounding. No condition. -/
namespace Go.Proofs.Ytnodelimomljbaa.RefA
open Go Go.Sx Go.Sx.Flt Go.Sx.Ref Go.Proofs.Ytnodelimomljbaa.RunRefA Go.Proofs.Ytnodelimomljbaa.PlainRefA

theorem one_ok {P : Program} {w0 : Base} {sp : FSpec} (h : sp.Ok P w0) : OracleOk P w0 (specOracle [sp]) := specOracle_ok fun _ hq => by
  cases List.mem_singleton.1 hq; exact h
theorem gone_ok {P : Program} {w0 : Base} {g : GSpec} (h : g.Ok P w0) : OracleOk P w0 (gOracle [g]) := gOracle_ok fun _ hq => by
  cases List.mem_singleton.1 hq; exact h
theorem lone_ok {P : Program} {w0 : Base} {bs : Bodies} {l : LSpec} (h : l.Ok P w0 bs) : LoopsOk P w0 bs (loopOracle [l]) := loopOracle_ok fun _ hq => by
  cases List.mem_singleton.1 hq; exact h
theorem noBd {b : List (E × Iv)} (h : b = []) (ρ : Env) : Bd.ok ρ b := fun _ hp => by rw [h] at hp; cases hp
theorem lenL_ok (w : World) : lenL.Ok Try.prog ⟨w, fnG⟩ (bodies fns) := lspec_run (fun _ _ => noOracle_ok _ _) (fun _ _ => noLoops_ok _ _ _) fnsKnown (noTabs w) lenLRan rfl fun u h _ => lenL_plain u h
theorem len_ok (w : World) : lenS.Ok Try.prog ⟨w, fnG⟩ := spec_run Try.call111 (fun _ _ => noOracle_ok _ _) (fun w' _ => lone_ok (lenL_ok w')) fnsKnown (noTabs w) lenRan rfl len_bd len_plain
theorem long_ok (w : World) : longS.Ok Try.prog ⟨w, fnG⟩ := spec_run Try.call112 (fun w' _ => one_ok (len_ok w')) (fun _ _ => noLoops_ok _ _ _) fnsKnown (noTabs w) longRan rfl long_bd long_plain
theorem word_ok (w : World) : wordS.Ok Try.prog ⟨w, fnG⟩ := spec_run Try.call114 (fun _ _ => noOracle_ok _ _) (fun _ _ => noLoops_ok _ _ _) fnsKnown (noTabs w) wordRan rfl (fun _ _ _ => noBd rfl _) word_plain
theorem downL_ok (w : World) : downL.Ok Try.prog ⟨w, fnG⟩ (bodies fns) := lspec_run (fun w' _ => one_ok (word_ok w')) (fun _ _ => noLoops_ok _ _ _) fnsKnown (noTabs w) downLRan rfl fun u h _ => downL_plain u h
theorem down_ok (w : World) : downS.Ok Try.prog ⟨w, fnG⟩ := spec_run Try.call106 (fun w' _ => one_ok (word_ok w')) (fun w' _ => lone_ok (downL_ok w')) fnsKnown (noTabs w) downRan rfl down_bd down_plain
theorem mul_ok (w : World) : mulS.Ok Try.prog ⟨w, fnG⟩ := spec_run Try.call102 (fun _ _ => noOracle_ok _ _) (fun _ _ => noLoops_ok _ _ _) fnsKnown (noTabs w) mulRan rfl (fun _ _ _ => noBd rfl _) mul_plain
theorem sgn_ok (w : World) : sgnD.Ok Try.prog ⟨w, fnG⟩ := gspec_run Try.call77 (fun _ _ => noOracle_ok _ _) (fun _ _ => noLoops_ok _ _ _) fnsKnown (noTabs w) rfl sgnDRan rfl (fun _ _ _ => noBd rfl _) sgn_plain
theorem bias_ok (w : World) : biasD.Ok Try.prog ⟨w, fnG⟩ := gspec_run Try.call113 (fun _ _ => noOracle_ok _ _) (fun _ _ => noLoops_ok _ _ _) fnsKnown (noTabs w) rfl biasDRan rfl (fun _ _ _ => noBd rfl _) bias_plain
theorem least_ok (w : World) : leastD.Ok Try.prog ⟨w, fnG⟩ := gspec_run Try.call105 (fun w' _ => gone_ok (bias_ok w')) (fun _ _ => noLoops_ok _ _ _) fnsKnown (noTabs w) rfl leastDRan rfl (fun _ _ _ => noBd rfl _) least_plain
theorem top_ok (w : World) : topD.Ok Try.prog ⟨w, fnG⟩ := gspec_run Try.call104 (fun _ _ => noOracle_ok _ _) (fun _ _ => noLoops_ok _ _ _) fnsKnown (noTabs w) rfl topDRan rfl (fun _ _ _ => noBd rfl _) top_plain
theorem nan_ok (w : World) : nanD.Ok Try.prog ⟨w, fnG⟩ := gspec_run Try.call98 (fun w' _ => gone_ok (top_ok w')) (fun _ _ => noLoops_ok _ _ _) fnsKnown (noTabs w) rfl nanDRan rfl (fun _ _ _ => noBd rfl _) nan_plain
theorem inf_ok (w : World) : infD.Ok Try.prog ⟨w, fnG⟩ := gspec_run Try.call99 (fun w' _ => gOracle_ok fun _ hq => by
  simp only [List.mem_cons, List.not_mem_nil, or_false] at hq
  rcases hq with rfl | rfl
  · exact sgn_ok w'
  · exact top_ok w') (fun _ _ => noLoops_ok _ _ _) fnsKnown (noTabs w) rfl infDRan rfl (fun _ _ _ => noBd rfl _) inf_plain
theorem g0_ok (w : World) : OracleOk Try.prog ⟨w, fnG⟩ (gOracle gsD0) := gOracle_ok fun _ hq => by
  simp only [gsD0, List.mem_cons, List.not_mem_nil, or_false] at hq
  rcases hq with rfl | rfl | rfl | rfl | rfl | rfl
  · exact sgn_ok w
  · exact bias_ok w
  · exact least_ok w
  · exact top_ok w
  · exact nan_ok w
  · exact inf_ok w
theorem rnd_orc (w : World) : OracleOk Try.prog ⟨w, fnG⟩ (orcs (gOracle gsD0) (orcs (specOracle [longS]) (nameO (specOracle [downS])))) :=
  orcs_ok (g0_ok w) (orcs_ok (one_ok (long_ok w)) (nameO_ok (one_ok (down_ok w))))
theorem rndA0_ok (w : World) : rndA0.Ok Try.prog ⟨w, fnG⟩ := gspec_run Try.call103 (fun w' _ => rnd_orc w') (fun _ _ => noLoops_ok _ _ _) fnsKnown (noTabs w) rfl RunRndA0.rndA0Ran rfl (fun _ _ _ => noBd rfl _) PlainRndA0.plain
theorem rndA1_ok (w : World) : rndA1.Ok Try.prog ⟨w, fnG⟩ := gspec_run Try.call103 (fun w' _ => rnd_orc w') (fun _ _ => noLoops_ok _ _ _) fnsKnown (noTabs w) rfl RunRndA1.rndA1Ran rfl (fun _ _ _ => noBd rfl _) PlainRndA1.plain
theorem rndB0_ok (w : World) : rndB0.Ok Try.prog ⟨w, fnG⟩ := gspec_run Try.call103 (fun w' _ => rnd_orc w') (fun _ _ => noLoops_ok _ _ _) fnsKnown (noTabs w) rfl RunRndB0.rndB0Ran rfl (fun _ _ _ => noBd rfl _) PlainRndB0.plain
theorem rndB1_ok (w : World) : rndB1.Ok Try.prog ⟨w, fnG⟩ := gspec_run Try.call103 (fun w' _ => rnd_orc w') (fun _ _ => noLoops_ok _ _ _) fnsKnown (noTabs w) rfl RunRndB1.rndB1Ran rfl (fun _ _ _ => noBd rfl _) PlainRndB1.plain
theorem rnd_ok (w : World) : rndD.Ok Try.prog ⟨w, fnG⟩ := by
  refine ⟨Try.call103, fun v hv hp => ⟨fun _ h => (by cases h), ?_⟩⟩
  have ext : ∀ a b : E, a.den ⟨v, fnG⟩ ≠ 0 → b.den ⟨v, fnG⟩ ≠ 0 → pcOk ⟨v, fnG⟩ (a :: b :: rndPre) := fun a b ha hb e he => by
    rcases List.mem_cons.1 he with rfl | he
    · exact ha
    · rcases List.mem_cons.1 he with rfl | he
      · exact hb
      · exact hp e he
  have lt1 : ∀ a b : E, a.den ⟨v, fnG⟩ < b.den ⟨v, fnG⟩ → (bi .lt a b).den ⟨v, fnG⟩ ≠ 0 := fun a b h => by simp [bi, E.den, Bi.den, b2i, h]
  have le1 : ∀ a b : E, a.den ⟨v, fnG⟩ ≤ b.den ⟨v, fnG⟩ → (bi .le a b).den ⟨v, fnG⟩ ≠ 0 := fun a b h => by simp [bi, E.den, Bi.den, b2i, h]
  by_cases hab : byB.den ⟨v, fnG⟩ < byA.den ⟨v, fnG⟩
  · by_cases h0 : byA.den ⟨v, fnG⟩ < (E.lit 0).den ⟨v, fnG⟩
    · exact ((rndA0_ok w).2 v hv (ext _ _ (lt1 _ _ h0) (lt1 _ _ hab))).2
    · exact ((rndA1_ok w).2 v hv (ext _ _ (le1 _ _ (by omega)) (lt1 _ _ hab))).2
  · by_cases h0 : byB.den ⟨v, fnG⟩ < (E.lit 0).den ⟨v, fnG⟩
    · exact ((rndB0_ok w).2 v hv (ext _ _ (lt1 _ _ h0) (le1 _ _ (by omega)))).2
    · exact ((rndB1_ok w).2 v hv (ext _ _ (le1 _ _ (by omega)) (le1 _ _ (by omega)))).2
end Go.Proofs.Ytnodelimomljbaa.RefA

/- The ways of the reference's floats through numbers, and that the code takes no other. No condition. -/
namespace Go.Proofs.Ytnodelimomljbaa.RunRefF
open Go Go.Sx Go.Sx.Flt Go.Sx.Ref

def compDK0R : List Leaf := [
  ([(.bin .lt (.lit 9218868437227405312) (.bin .emod (.var 0) (.lit 9223372036854775808))), (.bin .eq (.var 5) (plcE (.var 1))), (.bin .eq (.var 4) (magE (.var 1))), (.bin .eq (.var 3) (plcE (.var 0))), (.bin .eq (.var 2) (magE (.var 0)))], (.int .i64 (.lit 0))),
  ([(.bin .lt (.lit 9218868437227405312) (.bin .emod (.var 1) (.lit 9223372036854775808))), (.bin .le (.bin .emod (.var 0) (.lit 9223372036854775808)) (.lit 9218868437227405312)), (.bin .eq (.var 5) (plcE (.var 1))), (.bin .eq (.var 4) (magE (.var 1))), (.bin .eq (.var 3) (plcE (.var 0))), (.bin .eq (.var 2) (magE (.var 0)))], (.int .i64 (.lit 0))),
  ([(.bin .le (.ite (.bin .le (.lit 9223372036854775808) (.var 0)) (.bin .sub (.lit 9223372036854775808) (.var 0)) (.var 0)) (.ite (.bin .le (.lit 9223372036854775808) (.var 1)) (.bin .sub (.lit 9223372036854775808) (.var 1)) (.var 1))), (.bin .le (.ite (.bin .le (.lit 9223372036854775808) (.var 1)) (.bin .sub (.lit 9223372036854775808) (.var 1)) (.var 1)) (.ite (.bin .le (.lit 9223372036854775808) (.var 0)) (.bin .sub (.lit 9223372036854775808) (.var 0)) (.var 0))), (.bin .le (.bin .emod (.var 1) (.lit 9223372036854775808)) (.lit 9218868437227405312)), (.bin .le (.bin .emod (.var 0) (.lit 9223372036854775808)) (.lit 9218868437227405312)), (.bin .eq (.var 5) (plcE (.var 1))), (.bin .eq (.var 4) (magE (.var 1))), (.bin .eq (.var 3) (plcE (.var 0))), (.bin .eq (.var 2) (magE (.var 0)))], (.int .i64 (.lit 1))),
  ([(.bin .lt (.ite (.bin .le (.lit 9223372036854775808) (.var 1)) (.bin .sub (.lit 9223372036854775808) (.var 1)) (.var 1)) (.ite (.bin .le (.lit 9223372036854775808) (.var 0)) (.bin .sub (.lit 9223372036854775808) (.var 0)) (.var 0))), (.bin .le (.ite (.bin .le (.lit 9223372036854775808) (.var 1)) (.bin .sub (.lit 9223372036854775808) (.var 1)) (.var 1)) (.ite (.bin .le (.lit 9223372036854775808) (.var 0)) (.bin .sub (.lit 9223372036854775808) (.var 0)) (.var 0))), (.bin .le (.bin .emod (.var 1) (.lit 9223372036854775808)) (.lit 9218868437227405312)), (.bin .le (.bin .emod (.var 0) (.lit 9223372036854775808)) (.lit 9218868437227405312)), (.bin .eq (.var 5) (plcE (.var 1))), (.bin .eq (.var 4) (magE (.var 1))), (.bin .eq (.var 3) (plcE (.var 0))), (.bin .eq (.var 2) (magE (.var 0)))], (.int .i64 (.lit 0))),
  ([(.bin .lt (.ite (.bin .le (.lit 9223372036854775808) (.var 0)) (.bin .sub (.lit 9223372036854775808) (.var 0)) (.var 0)) (.ite (.bin .le (.lit 9223372036854775808) (.var 1)) (.bin .sub (.lit 9223372036854775808) (.var 1)) (.var 1))), (.bin .le (.bin .emod (.var 1) (.lit 9223372036854775808)) (.lit 9218868437227405312)), (.bin .le (.bin .emod (.var 0) (.lit 9223372036854775808)) (.lit 9218868437227405312)), (.bin .eq (.var 5) (plcE (.var 1))), (.bin .eq (.var 4) (magE (.var 1))), (.bin .eq (.var 3) (plcE (.var 0))), (.bin .eq (.var 2) (magE (.var 0)))], (.int .i64 (.lit 0))),
  ([(.bin .lt (.lit 9218868437227405312) (.bin .emod (.var 0) (.lit 9223372036854775808))), (.bin .eq (.var 5) (plcE (.var 1))), (.bin .eq (.var 4) (magE (.var 1))), (.bin .eq (.var 3) (plcE (.var 0))), (.bin .eq (.var 2) (magE (.var 0)))], (.int .i64 (.lit 0))),
  ([(.bin .lt (.lit 9218868437227405312) (.bin .emod (.var 1) (.lit 9223372036854775808))), (.bin .le (.bin .emod (.var 0) (.lit 9223372036854775808)) (.lit 9218868437227405312)), (.bin .eq (.var 5) (plcE (.var 1))), (.bin .eq (.var 4) (magE (.var 1))), (.bin .eq (.var 3) (plcE (.var 0))), (.bin .eq (.var 2) (magE (.var 0)))], (.int .i64 (.lit 0))),
  ([(.bin .le (.ite (.bin .le (.lit 9223372036854775808) (.var 0)) (.bin .sub (.lit 9223372036854775808) (.var 0)) (.var 0)) (.ite (.bin .le (.lit 9223372036854775808) (.var 1)) (.bin .sub (.lit 9223372036854775808) (.var 1)) (.var 1))), (.bin .le (.ite (.bin .le (.lit 9223372036854775808) (.var 1)) (.bin .sub (.lit 9223372036854775808) (.var 1)) (.var 1)) (.ite (.bin .le (.lit 9223372036854775808) (.var 0)) (.bin .sub (.lit 9223372036854775808) (.var 0)) (.var 0))), (.bin .le (.bin .emod (.var 1) (.lit 9223372036854775808)) (.lit 9218868437227405312)), (.bin .le (.bin .emod (.var 0) (.lit 9223372036854775808)) (.lit 9218868437227405312)), (.bin .eq (.var 5) (plcE (.var 1))), (.bin .eq (.var 4) (magE (.var 1))), (.bin .eq (.var 3) (plcE (.var 0))), (.bin .eq (.var 2) (magE (.var 0)))], (.int .i64 (.lit 1))),
  ([(.bin .lt (.ite (.bin .le (.lit 9223372036854775808) (.var 1)) (.bin .sub (.lit 9223372036854775808) (.var 1)) (.var 1)) (.ite (.bin .le (.lit 9223372036854775808) (.var 0)) (.bin .sub (.lit 9223372036854775808) (.var 0)) (.var 0))), (.bin .le (.ite (.bin .le (.lit 9223372036854775808) (.var 1)) (.bin .sub (.lit 9223372036854775808) (.var 1)) (.var 1)) (.ite (.bin .le (.lit 9223372036854775808) (.var 0)) (.bin .sub (.lit 9223372036854775808) (.var 0)) (.var 0))), (.bin .le (.bin .emod (.var 1) (.lit 9223372036854775808)) (.lit 9218868437227405312)), (.bin .le (.bin .emod (.var 0) (.lit 9223372036854775808)) (.lit 9218868437227405312)), (.bin .eq (.var 5) (plcE (.var 1))), (.bin .eq (.var 4) (magE (.var 1))), (.bin .eq (.var 3) (plcE (.var 0))), (.bin .eq (.var 2) (magE (.var 0)))], (.int .i64 (.lit 0))),
  ([(.bin .lt (.ite (.bin .le (.lit 9223372036854775808) (.var 0)) (.bin .sub (.lit 9223372036854775808) (.var 0)) (.var 0)) (.ite (.bin .le (.lit 9223372036854775808) (.var 1)) (.bin .sub (.lit 9223372036854775808) (.var 1)) (.var 1))), (.bin .le (.bin .emod (.var 1) (.lit 9223372036854775808)) (.lit 9218868437227405312)), (.bin .le (.bin .emod (.var 0) (.lit 9223372036854775808)) (.lit 9218868437227405312)), (.bin .eq (.var 5) (plcE (.var 1))), (.bin .eq (.var 4) (magE (.var 1))), (.bin .eq (.var 3) (plcE (.var 0))), (.bin .eq (.var 2) (magE (.var 0)))], (.int .i64 (.lit 0)))]
set_option maxRecDepth 100000 in
theorem compDK0Ran : runOfG Try.prog (orcs (nameO (gOracle [apartD])) (gOracle [lessD])) noLoops (bodies fns) [] 4000 (compDK 0) = some compDK0R := by kernel_rfl
def compDK1R : List Leaf := [
  ([(.bin .lt (.lit 9218868437227405312) (.bin .emod (.var 0) (.lit 9223372036854775808))), (.bin .eq (.var 5) (plcE (.var 1))), (.bin .eq (.var 4) (magE (.var 1))), (.bin .eq (.var 3) (plcE (.var 0))), (.bin .eq (.var 2) (magE (.var 0)))], (.int .i64 (.lit 1))),
  ([(.bin .lt (.lit 9218868437227405312) (.bin .emod (.var 1) (.lit 9223372036854775808))), (.bin .le (.bin .emod (.var 0) (.lit 9223372036854775808)) (.lit 9218868437227405312)), (.bin .eq (.var 5) (plcE (.var 1))), (.bin .eq (.var 4) (magE (.var 1))), (.bin .eq (.var 3) (plcE (.var 0))), (.bin .eq (.var 2) (magE (.var 0)))], (.int .i64 (.lit 1))),
  ([(.bin .lt (.ite (.bin .le (.lit 9223372036854775808) (.var 1)) (.bin .sub (.lit 9223372036854775808) (.var 1)) (.var 1)) (.ite (.bin .le (.lit 9223372036854775808) (.var 0)) (.bin .sub (.lit 9223372036854775808) (.var 0)) (.var 0))), (.bin .le (.ite (.bin .le (.lit 9223372036854775808) (.var 1)) (.bin .sub (.lit 9223372036854775808) (.var 1)) (.var 1)) (.ite (.bin .le (.lit 9223372036854775808) (.var 0)) (.bin .sub (.lit 9223372036854775808) (.var 0)) (.var 0))), (.bin .le (.bin .emod (.var 1) (.lit 9223372036854775808)) (.lit 9218868437227405312)), (.bin .le (.bin .emod (.var 0) (.lit 9223372036854775808)) (.lit 9218868437227405312)), (.bin .eq (.var 5) (plcE (.var 1))), (.bin .eq (.var 4) (magE (.var 1))), (.bin .eq (.var 3) (plcE (.var 0))), (.bin .eq (.var 2) (magE (.var 0)))], (.int .i64 (.lit 1))),
  ([(.bin .le (.ite (.bin .le (.lit 9223372036854775808) (.var 0)) (.bin .sub (.lit 9223372036854775808) (.var 0)) (.var 0)) (.ite (.bin .le (.lit 9223372036854775808) (.var 1)) (.bin .sub (.lit 9223372036854775808) (.var 1)) (.var 1))), (.bin .le (.ite (.bin .le (.lit 9223372036854775808) (.var 1)) (.bin .sub (.lit 9223372036854775808) (.var 1)) (.var 1)) (.ite (.bin .le (.lit 9223372036854775808) (.var 0)) (.bin .sub (.lit 9223372036854775808) (.var 0)) (.var 0))), (.bin .le (.bin .emod (.var 1) (.lit 9223372036854775808)) (.lit 9218868437227405312)), (.bin .le (.bin .emod (.var 0) (.lit 9223372036854775808)) (.lit 9218868437227405312)), (.bin .eq (.var 5) (plcE (.var 1))), (.bin .eq (.var 4) (magE (.var 1))), (.bin .eq (.var 3) (plcE (.var 0))), (.bin .eq (.var 2) (magE (.var 0)))], (.int .i64 (.lit 0))),
  ([(.bin .lt (.ite (.bin .le (.lit 9223372036854775808) (.var 0)) (.bin .sub (.lit 9223372036854775808) (.var 0)) (.var 0)) (.ite (.bin .le (.lit 9223372036854775808) (.var 1)) (.bin .sub (.lit 9223372036854775808) (.var 1)) (.var 1))), (.bin .le (.bin .emod (.var 1) (.lit 9223372036854775808)) (.lit 9218868437227405312)), (.bin .le (.bin .emod (.var 0) (.lit 9223372036854775808)) (.lit 9218868437227405312)), (.bin .eq (.var 5) (plcE (.var 1))), (.bin .eq (.var 4) (magE (.var 1))), (.bin .eq (.var 3) (plcE (.var 0))), (.bin .eq (.var 2) (magE (.var 0)))], (.int .i64 (.lit 1))),
  ([(.bin .lt (.lit 9218868437227405312) (.bin .emod (.var 0) (.lit 9223372036854775808))), (.bin .eq (.var 5) (plcE (.var 1))), (.bin .eq (.var 4) (magE (.var 1))), (.bin .eq (.var 3) (plcE (.var 0))), (.bin .eq (.var 2) (magE (.var 0)))], (.int .i64 (.lit 1))),
  ([(.bin .lt (.lit 9218868437227405312) (.bin .emod (.var 1) (.lit 9223372036854775808))), (.bin .le (.bin .emod (.var 0) (.lit 9223372036854775808)) (.lit 9218868437227405312)), (.bin .eq (.var 5) (plcE (.var 1))), (.bin .eq (.var 4) (magE (.var 1))), (.bin .eq (.var 3) (plcE (.var 0))), (.bin .eq (.var 2) (magE (.var 0)))], (.int .i64 (.lit 1))),
  ([(.bin .lt (.ite (.bin .le (.lit 9223372036854775808) (.var 1)) (.bin .sub (.lit 9223372036854775808) (.var 1)) (.var 1)) (.ite (.bin .le (.lit 9223372036854775808) (.var 0)) (.bin .sub (.lit 9223372036854775808) (.var 0)) (.var 0))), (.bin .le (.ite (.bin .le (.lit 9223372036854775808) (.var 1)) (.bin .sub (.lit 9223372036854775808) (.var 1)) (.var 1)) (.ite (.bin .le (.lit 9223372036854775808) (.var 0)) (.bin .sub (.lit 9223372036854775808) (.var 0)) (.var 0))), (.bin .le (.bin .emod (.var 1) (.lit 9223372036854775808)) (.lit 9218868437227405312)), (.bin .le (.bin .emod (.var 0) (.lit 9223372036854775808)) (.lit 9218868437227405312)), (.bin .eq (.var 5) (plcE (.var 1))), (.bin .eq (.var 4) (magE (.var 1))), (.bin .eq (.var 3) (plcE (.var 0))), (.bin .eq (.var 2) (magE (.var 0)))], (.int .i64 (.lit 1))),
  ([(.bin .le (.ite (.bin .le (.lit 9223372036854775808) (.var 0)) (.bin .sub (.lit 9223372036854775808) (.var 0)) (.var 0)) (.ite (.bin .le (.lit 9223372036854775808) (.var 1)) (.bin .sub (.lit 9223372036854775808) (.var 1)) (.var 1))), (.bin .le (.ite (.bin .le (.lit 9223372036854775808) (.var 1)) (.bin .sub (.lit 9223372036854775808) (.var 1)) (.var 1)) (.ite (.bin .le (.lit 9223372036854775808) (.var 0)) (.bin .sub (.lit 9223372036854775808) (.var 0)) (.var 0))), (.bin .le (.bin .emod (.var 1) (.lit 9223372036854775808)) (.lit 9218868437227405312)), (.bin .le (.bin .emod (.var 0) (.lit 9223372036854775808)) (.lit 9218868437227405312)), (.bin .eq (.var 5) (plcE (.var 1))), (.bin .eq (.var 4) (magE (.var 1))), (.bin .eq (.var 3) (plcE (.var 0))), (.bin .eq (.var 2) (magE (.var 0)))], (.int .i64 (.lit 0))),
  ([(.bin .lt (.ite (.bin .le (.lit 9223372036854775808) (.var 0)) (.bin .sub (.lit 9223372036854775808) (.var 0)) (.var 0)) (.ite (.bin .le (.lit 9223372036854775808) (.var 1)) (.bin .sub (.lit 9223372036854775808) (.var 1)) (.var 1))), (.bin .le (.bin .emod (.var 1) (.lit 9223372036854775808)) (.lit 9218868437227405312)), (.bin .le (.bin .emod (.var 0) (.lit 9223372036854775808)) (.lit 9218868437227405312)), (.bin .eq (.var 5) (plcE (.var 1))), (.bin .eq (.var 4) (magE (.var 1))), (.bin .eq (.var 3) (plcE (.var 0))), (.bin .eq (.var 2) (magE (.var 0)))], (.int .i64 (.lit 1)))]
set_option maxRecDepth 100000 in
theorem compDK1Ran : runOfG Try.prog (orcs (nameO (gOracle [apartD])) (gOracle [lessD])) noLoops (bodies fns) [] 4000 (compDK 1) = some compDK1R := by kernel_rfl
def compDK2R : List Leaf := [
  ([(.bin .lt (.lit 9218868437227405312) (.bin .emod (.var 0) (.lit 9223372036854775808))), (.bin .eq (.var 5) (plcE (.var 1))), (.bin .eq (.var 4) (magE (.var 1))), (.bin .eq (.var 3) (plcE (.var 0))), (.bin .eq (.var 2) (magE (.var 0)))], (.int .i64 (.lit 0))),
  ([(.bin .lt (.lit 9218868437227405312) (.bin .emod (.var 1) (.lit 9223372036854775808))), (.bin .le (.bin .emod (.var 0) (.lit 9223372036854775808)) (.lit 9218868437227405312)), (.bin .eq (.var 5) (plcE (.var 1))), (.bin .eq (.var 4) (magE (.var 1))), (.bin .eq (.var 3) (plcE (.var 0))), (.bin .eq (.var 2) (magE (.var 0)))], (.int .i64 (.lit 0))),
  ([(.bin .le (.ite (.bin .le (.lit 9223372036854775808) (.var 1)) (.bin .sub (.lit 9223372036854775808) (.var 1)) (.var 1)) (.ite (.bin .le (.lit 9223372036854775808) (.var 0)) (.bin .sub (.lit 9223372036854775808) (.var 0)) (.var 0))), (.bin .le (.bin .emod (.var 1) (.lit 9223372036854775808)) (.lit 9218868437227405312)), (.bin .le (.bin .emod (.var 0) (.lit 9223372036854775808)) (.lit 9218868437227405312)), (.bin .eq (.var 5) (plcE (.var 1))), (.bin .eq (.var 4) (magE (.var 1))), (.bin .eq (.var 3) (plcE (.var 0))), (.bin .eq (.var 2) (magE (.var 0)))], (.int .i64 (.lit 0))),
  ([(.bin .lt (.ite (.bin .le (.lit 9223372036854775808) (.var 0)) (.bin .sub (.lit 9223372036854775808) (.var 0)) (.var 0)) (.ite (.bin .le (.lit 9223372036854775808) (.var 1)) (.bin .sub (.lit 9223372036854775808) (.var 1)) (.var 1))), (.bin .le (.bin .emod (.var 1) (.lit 9223372036854775808)) (.lit 9218868437227405312)), (.bin .le (.bin .emod (.var 0) (.lit 9223372036854775808)) (.lit 9218868437227405312)), (.bin .eq (.var 5) (plcE (.var 1))), (.bin .eq (.var 4) (magE (.var 1))), (.bin .eq (.var 3) (plcE (.var 0))), (.bin .eq (.var 2) (magE (.var 0)))], (.int .i64 (.lit 1))),
  ([(.bin .lt (.lit 9218868437227405312) (.bin .emod (.var 0) (.lit 9223372036854775808))), (.bin .eq (.var 5) (plcE (.var 1))), (.bin .eq (.var 4) (magE (.var 1))), (.bin .eq (.var 3) (plcE (.var 0))), (.bin .eq (.var 2) (magE (.var 0)))], (.int .i64 (.lit 0))),
  ([(.bin .lt (.lit 9218868437227405312) (.bin .emod (.var 1) (.lit 9223372036854775808))), (.bin .le (.bin .emod (.var 0) (.lit 9223372036854775808)) (.lit 9218868437227405312)), (.bin .eq (.var 5) (plcE (.var 1))), (.bin .eq (.var 4) (magE (.var 1))), (.bin .eq (.var 3) (plcE (.var 0))), (.bin .eq (.var 2) (magE (.var 0)))], (.int .i64 (.lit 0))),
  ([(.bin .le (.ite (.bin .le (.lit 9223372036854775808) (.var 1)) (.bin .sub (.lit 9223372036854775808) (.var 1)) (.var 1)) (.ite (.bin .le (.lit 9223372036854775808) (.var 0)) (.bin .sub (.lit 9223372036854775808) (.var 0)) (.var 0))), (.bin .le (.bin .emod (.var 1) (.lit 9223372036854775808)) (.lit 9218868437227405312)), (.bin .le (.bin .emod (.var 0) (.lit 9223372036854775808)) (.lit 9218868437227405312)), (.bin .eq (.var 5) (plcE (.var 1))), (.bin .eq (.var 4) (magE (.var 1))), (.bin .eq (.var 3) (plcE (.var 0))), (.bin .eq (.var 2) (magE (.var 0)))], (.int .i64 (.lit 0))),
  ([(.bin .lt (.ite (.bin .le (.lit 9223372036854775808) (.var 0)) (.bin .sub (.lit 9223372036854775808) (.var 0)) (.var 0)) (.ite (.bin .le (.lit 9223372036854775808) (.var 1)) (.bin .sub (.lit 9223372036854775808) (.var 1)) (.var 1))), (.bin .le (.bin .emod (.var 1) (.lit 9223372036854775808)) (.lit 9218868437227405312)), (.bin .le (.bin .emod (.var 0) (.lit 9223372036854775808)) (.lit 9218868437227405312)), (.bin .eq (.var 5) (plcE (.var 1))), (.bin .eq (.var 4) (magE (.var 1))), (.bin .eq (.var 3) (plcE (.var 0))), (.bin .eq (.var 2) (magE (.var 0)))], (.int .i64 (.lit 1)))]
set_option maxRecDepth 100000 in
theorem compDK2Ran : runOfG Try.prog (orcs (nameO (gOracle [apartD])) (gOracle [lessD])) noLoops (bodies fns) [] 4000 (compDK 2) = some compDK2R := by kernel_rfl
def compDK3R : List Leaf := [
  ([(.bin .lt (.lit 9218868437227405312) (.bin .emod (.var 0) (.lit 9223372036854775808))), (.bin .eq (.var 5) (plcE (.var 1))), (.bin .eq (.var 4) (magE (.var 1))), (.bin .eq (.var 3) (plcE (.var 0))), (.bin .eq (.var 2) (magE (.var 0)))], (.int .i64 (.lit 0))),
  ([(.bin .lt (.lit 9218868437227405312) (.bin .emod (.var 1) (.lit 9223372036854775808))), (.bin .le (.bin .emod (.var 0) (.lit 9223372036854775808)) (.lit 9218868437227405312)), (.bin .eq (.var 5) (plcE (.var 1))), (.bin .eq (.var 4) (magE (.var 1))), (.bin .eq (.var 3) (plcE (.var 0))), (.bin .eq (.var 2) (magE (.var 0)))], (.int .i64 (.lit 0))),
  ([(.bin .lt (.ite (.bin .le (.lit 9223372036854775808) (.var 1)) (.bin .sub (.lit 9223372036854775808) (.var 1)) (.var 1)) (.ite (.bin .le (.lit 9223372036854775808) (.var 0)) (.bin .sub (.lit 9223372036854775808) (.var 0)) (.var 0))), (.bin .le (.ite (.bin .le (.lit 9223372036854775808) (.var 1)) (.bin .sub (.lit 9223372036854775808) (.var 1)) (.var 1)) (.ite (.bin .le (.lit 9223372036854775808) (.var 0)) (.bin .sub (.lit 9223372036854775808) (.var 0)) (.var 0))), (.bin .le (.bin .emod (.var 1) (.lit 9223372036854775808)) (.lit 9218868437227405312)), (.bin .le (.bin .emod (.var 0) (.lit 9223372036854775808)) (.lit 9218868437227405312)), (.bin .eq (.var 5) (plcE (.var 1))), (.bin .eq (.var 4) (magE (.var 1))), (.bin .eq (.var 3) (plcE (.var 0))), (.bin .eq (.var 2) (magE (.var 0)))], (.int .i64 (.lit 1))),
  ([(.bin .le (.ite (.bin .le (.lit 9223372036854775808) (.var 0)) (.bin .sub (.lit 9223372036854775808) (.var 0)) (.var 0)) (.ite (.bin .le (.lit 9223372036854775808) (.var 1)) (.bin .sub (.lit 9223372036854775808) (.var 1)) (.var 1))), (.bin .le (.ite (.bin .le (.lit 9223372036854775808) (.var 1)) (.bin .sub (.lit 9223372036854775808) (.var 1)) (.var 1)) (.ite (.bin .le (.lit 9223372036854775808) (.var 0)) (.bin .sub (.lit 9223372036854775808) (.var 0)) (.var 0))), (.bin .le (.bin .emod (.var 1) (.lit 9223372036854775808)) (.lit 9218868437227405312)), (.bin .le (.bin .emod (.var 0) (.lit 9223372036854775808)) (.lit 9218868437227405312)), (.bin .eq (.var 5) (plcE (.var 1))), (.bin .eq (.var 4) (magE (.var 1))), (.bin .eq (.var 3) (plcE (.var 0))), (.bin .eq (.var 2) (magE (.var 0)))], (.int .i64 (.lit 0))),
  ([(.bin .lt (.ite (.bin .le (.lit 9223372036854775808) (.var 1)) (.bin .sub (.lit 9223372036854775808) (.var 1)) (.var 1)) (.ite (.bin .le (.lit 9223372036854775808) (.var 0)) (.bin .sub (.lit 9223372036854775808) (.var 0)) (.var 0))), (.bin .lt (.ite (.bin .le (.lit 9223372036854775808) (.var 0)) (.bin .sub (.lit 9223372036854775808) (.var 0)) (.var 0)) (.ite (.bin .le (.lit 9223372036854775808) (.var 1)) (.bin .sub (.lit 9223372036854775808) (.var 1)) (.var 1))), (.bin .le (.bin .emod (.var 1) (.lit 9223372036854775808)) (.lit 9218868437227405312)), (.bin .le (.bin .emod (.var 0) (.lit 9223372036854775808)) (.lit 9218868437227405312)), (.bin .eq (.var 5) (plcE (.var 1))), (.bin .eq (.var 4) (magE (.var 1))), (.bin .eq (.var 3) (plcE (.var 0))), (.bin .eq (.var 2) (magE (.var 0)))], (.int .i64 (.lit 1))),
  ([(.bin .le (.ite (.bin .le (.lit 9223372036854775808) (.var 0)) (.bin .sub (.lit 9223372036854775808) (.var 0)) (.var 0)) (.ite (.bin .le (.lit 9223372036854775808) (.var 1)) (.bin .sub (.lit 9223372036854775808) (.var 1)) (.var 1))), (.bin .lt (.ite (.bin .le (.lit 9223372036854775808) (.var 0)) (.bin .sub (.lit 9223372036854775808) (.var 0)) (.var 0)) (.ite (.bin .le (.lit 9223372036854775808) (.var 1)) (.bin .sub (.lit 9223372036854775808) (.var 1)) (.var 1))), (.bin .le (.bin .emod (.var 1) (.lit 9223372036854775808)) (.lit 9218868437227405312)), (.bin .le (.bin .emod (.var 0) (.lit 9223372036854775808)) (.lit 9218868437227405312)), (.bin .eq (.var 5) (plcE (.var 1))), (.bin .eq (.var 4) (magE (.var 1))), (.bin .eq (.var 3) (plcE (.var 0))), (.bin .eq (.var 2) (magE (.var 0)))], (.int .i64 (.lit 0))),
  ([(.bin .lt (.lit 9218868437227405312) (.bin .emod (.var 0) (.lit 9223372036854775808))), (.bin .eq (.var 5) (plcE (.var 1))), (.bin .eq (.var 4) (magE (.var 1))), (.bin .eq (.var 3) (plcE (.var 0))), (.bin .eq (.var 2) (magE (.var 0)))], (.int .i64 (.lit 0))),
  ([(.bin .lt (.lit 9218868437227405312) (.bin .emod (.var 1) (.lit 9223372036854775808))), (.bin .le (.bin .emod (.var 0) (.lit 9223372036854775808)) (.lit 9218868437227405312)), (.bin .eq (.var 5) (plcE (.var 1))), (.bin .eq (.var 4) (magE (.var 1))), (.bin .eq (.var 3) (plcE (.var 0))), (.bin .eq (.var 2) (magE (.var 0)))], (.int .i64 (.lit 0))),
  ([(.bin .lt (.ite (.bin .le (.lit 9223372036854775808) (.var 1)) (.bin .sub (.lit 9223372036854775808) (.var 1)) (.var 1)) (.ite (.bin .le (.lit 9223372036854775808) (.var 0)) (.bin .sub (.lit 9223372036854775808) (.var 0)) (.var 0))), (.bin .le (.ite (.bin .le (.lit 9223372036854775808) (.var 1)) (.bin .sub (.lit 9223372036854775808) (.var 1)) (.var 1)) (.ite (.bin .le (.lit 9223372036854775808) (.var 0)) (.bin .sub (.lit 9223372036854775808) (.var 0)) (.var 0))), (.bin .le (.bin .emod (.var 1) (.lit 9223372036854775808)) (.lit 9218868437227405312)), (.bin .le (.bin .emod (.var 0) (.lit 9223372036854775808)) (.lit 9218868437227405312)), (.bin .eq (.var 5) (plcE (.var 1))), (.bin .eq (.var 4) (magE (.var 1))), (.bin .eq (.var 3) (plcE (.var 0))), (.bin .eq (.var 2) (magE (.var 0)))], (.int .i64 (.lit 1))),
  ([(.bin .le (.ite (.bin .le (.lit 9223372036854775808) (.var 0)) (.bin .sub (.lit 9223372036854775808) (.var 0)) (.var 0)) (.ite (.bin .le (.lit 9223372036854775808) (.var 1)) (.bin .sub (.lit 9223372036854775808) (.var 1)) (.var 1))), (.bin .le (.ite (.bin .le (.lit 9223372036854775808) (.var 1)) (.bin .sub (.lit 9223372036854775808) (.var 1)) (.var 1)) (.ite (.bin .le (.lit 9223372036854775808) (.var 0)) (.bin .sub (.lit 9223372036854775808) (.var 0)) (.var 0))), (.bin .le (.bin .emod (.var 1) (.lit 9223372036854775808)) (.lit 9218868437227405312)), (.bin .le (.bin .emod (.var 0) (.lit 9223372036854775808)) (.lit 9218868437227405312)), (.bin .eq (.var 5) (plcE (.var 1))), (.bin .eq (.var 4) (magE (.var 1))), (.bin .eq (.var 3) (plcE (.var 0))), (.bin .eq (.var 2) (magE (.var 0)))], (.int .i64 (.lit 0))),
  ([(.bin .lt (.ite (.bin .le (.lit 9223372036854775808) (.var 1)) (.bin .sub (.lit 9223372036854775808) (.var 1)) (.var 1)) (.ite (.bin .le (.lit 9223372036854775808) (.var 0)) (.bin .sub (.lit 9223372036854775808) (.var 0)) (.var 0))), (.bin .lt (.ite (.bin .le (.lit 9223372036854775808) (.var 0)) (.bin .sub (.lit 9223372036854775808) (.var 0)) (.var 0)) (.ite (.bin .le (.lit 9223372036854775808) (.var 1)) (.bin .sub (.lit 9223372036854775808) (.var 1)) (.var 1))), (.bin .le (.bin .emod (.var 1) (.lit 9223372036854775808)) (.lit 9218868437227405312)), (.bin .le (.bin .emod (.var 0) (.lit 9223372036854775808)) (.lit 9218868437227405312)), (.bin .eq (.var 5) (plcE (.var 1))), (.bin .eq (.var 4) (magE (.var 1))), (.bin .eq (.var 3) (plcE (.var 0))), (.bin .eq (.var 2) (magE (.var 0)))], (.int .i64 (.lit 1))),
  ([(.bin .le (.ite (.bin .le (.lit 9223372036854775808) (.var 0)) (.bin .sub (.lit 9223372036854775808) (.var 0)) (.var 0)) (.ite (.bin .le (.lit 9223372036854775808) (.var 1)) (.bin .sub (.lit 9223372036854775808) (.var 1)) (.var 1))), (.bin .lt (.ite (.bin .le (.lit 9223372036854775808) (.var 0)) (.bin .sub (.lit 9223372036854775808) (.var 0)) (.var 0)) (.ite (.bin .le (.lit 9223372036854775808) (.var 1)) (.bin .sub (.lit 9223372036854775808) (.var 1)) (.var 1))), (.bin .le (.bin .emod (.var 1) (.lit 9223372036854775808)) (.lit 9218868437227405312)), (.bin .le (.bin .emod (.var 0) (.lit 9223372036854775808)) (.lit 9218868437227405312)), (.bin .eq (.var 5) (plcE (.var 1))), (.bin .eq (.var 4) (magE (.var 1))), (.bin .eq (.var 3) (plcE (.var 0))), (.bin .eq (.var 2) (magE (.var 0)))], (.int .i64 (.lit 0)))]
set_option maxRecDepth 100000 in
theorem compDK3Ran : runOfG Try.prog (orcs (nameO (gOracle [apartD])) (gOracle [lessD])) noLoops (bodies fns) [] 4000 (compDK 3) = some compDK3R := by kernel_rfl
def compDK4R : List Leaf := [
  ([(.bin .lt (.lit 9218868437227405312) (.bin .emod (.var 0) (.lit 9223372036854775808))), (.bin .eq (.var 5) (plcE (.var 1))), (.bin .eq (.var 4) (magE (.var 1))), (.bin .eq (.var 3) (plcE (.var 0))), (.bin .eq (.var 2) (magE (.var 0)))], (.int .i64 (.lit 0))),
  ([(.bin .lt (.lit 9218868437227405312) (.bin .emod (.var 1) (.lit 9223372036854775808))), (.bin .le (.bin .emod (.var 0) (.lit 9223372036854775808)) (.lit 9218868437227405312)), (.bin .eq (.var 5) (plcE (.var 1))), (.bin .eq (.var 4) (magE (.var 1))), (.bin .eq (.var 3) (plcE (.var 0))), (.bin .eq (.var 2) (magE (.var 0)))], (.int .i64 (.lit 0))),
  ([(.bin .le (.ite (.bin .le (.lit 9223372036854775808) (.var 0)) (.bin .sub (.lit 9223372036854775808) (.var 0)) (.var 0)) (.ite (.bin .le (.lit 9223372036854775808) (.var 1)) (.bin .sub (.lit 9223372036854775808) (.var 1)) (.var 1))), (.bin .le (.ite (.bin .le (.lit 9223372036854775808) (.var 1)) (.bin .sub (.lit 9223372036854775808) (.var 1)) (.var 1)) (.ite (.bin .le (.lit 9223372036854775808) (.var 0)) (.bin .sub (.lit 9223372036854775808) (.var 0)) (.var 0))), (.bin .le (.bin .emod (.var 1) (.lit 9223372036854775808)) (.lit 9218868437227405312)), (.bin .le (.bin .emod (.var 0) (.lit 9223372036854775808)) (.lit 9218868437227405312)), (.bin .eq (.var 5) (plcE (.var 1))), (.bin .eq (.var 4) (magE (.var 1))), (.bin .eq (.var 3) (plcE (.var 0))), (.bin .eq (.var 2) (magE (.var 0)))], (.int .i64 (.lit 1))),
  ([(.bin .lt (.ite (.bin .le (.lit 9223372036854775808) (.var 1)) (.bin .sub (.lit 9223372036854775808) (.var 1)) (.var 1)) (.ite (.bin .le (.lit 9223372036854775808) (.var 0)) (.bin .sub (.lit 9223372036854775808) (.var 0)) (.var 0))), (.bin .le (.ite (.bin .le (.lit 9223372036854775808) (.var 1)) (.bin .sub (.lit 9223372036854775808) (.var 1)) (.var 1)) (.ite (.bin .le (.lit 9223372036854775808) (.var 0)) (.bin .sub (.lit 9223372036854775808) (.var 0)) (.var 0))), (.bin .le (.bin .emod (.var 1) (.lit 9223372036854775808)) (.lit 9218868437227405312)), (.bin .le (.bin .emod (.var 0) (.lit 9223372036854775808)) (.lit 9218868437227405312)), (.bin .eq (.var 5) (plcE (.var 1))), (.bin .eq (.var 4) (magE (.var 1))), (.bin .eq (.var 3) (plcE (.var 0))), (.bin .eq (.var 2) (magE (.var 0)))], (.int .i64 (.lit 0))),
  ([(.bin .le (.ite (.bin .le (.lit 9223372036854775808) (.var 0)) (.bin .sub (.lit 9223372036854775808) (.var 0)) (.var 0)) (.ite (.bin .le (.lit 9223372036854775808) (.var 1)) (.bin .sub (.lit 9223372036854775808) (.var 1)) (.var 1))), (.bin .lt (.ite (.bin .le (.lit 9223372036854775808) (.var 0)) (.bin .sub (.lit 9223372036854775808) (.var 0)) (.var 0)) (.ite (.bin .le (.lit 9223372036854775808) (.var 1)) (.bin .sub (.lit 9223372036854775808) (.var 1)) (.var 1))), (.bin .le (.bin .emod (.var 1) (.lit 9223372036854775808)) (.lit 9218868437227405312)), (.bin .le (.bin .emod (.var 0) (.lit 9223372036854775808)) (.lit 9218868437227405312)), (.bin .eq (.var 5) (plcE (.var 1))), (.bin .eq (.var 4) (magE (.var 1))), (.bin .eq (.var 3) (plcE (.var 0))), (.bin .eq (.var 2) (magE (.var 0)))], (.int .i64 (.lit 1))),
  ([(.bin .lt (.ite (.bin .le (.lit 9223372036854775808) (.var 1)) (.bin .sub (.lit 9223372036854775808) (.var 1)) (.var 1)) (.ite (.bin .le (.lit 9223372036854775808) (.var 0)) (.bin .sub (.lit 9223372036854775808) (.var 0)) (.var 0))), (.bin .lt (.ite (.bin .le (.lit 9223372036854775808) (.var 0)) (.bin .sub (.lit 9223372036854775808) (.var 0)) (.var 0)) (.ite (.bin .le (.lit 9223372036854775808) (.var 1)) (.bin .sub (.lit 9223372036854775808) (.var 1)) (.var 1))), (.bin .le (.bin .emod (.var 1) (.lit 9223372036854775808)) (.lit 9218868437227405312)), (.bin .le (.bin .emod (.var 0) (.lit 9223372036854775808)) (.lit 9218868437227405312)), (.bin .eq (.var 5) (plcE (.var 1))), (.bin .eq (.var 4) (magE (.var 1))), (.bin .eq (.var 3) (plcE (.var 0))), (.bin .eq (.var 2) (magE (.var 0)))], (.int .i64 (.lit 0))),
  ([(.bin .lt (.lit 9218868437227405312) (.bin .emod (.var 0) (.lit 9223372036854775808))), (.bin .eq (.var 5) (plcE (.var 1))), (.bin .eq (.var 4) (magE (.var 1))), (.bin .eq (.var 3) (plcE (.var 0))), (.bin .eq (.var 2) (magE (.var 0)))], (.int .i64 (.lit 0))),
  ([(.bin .lt (.lit 9218868437227405312) (.bin .emod (.var 1) (.lit 9223372036854775808))), (.bin .le (.bin .emod (.var 0) (.lit 9223372036854775808)) (.lit 9218868437227405312)), (.bin .eq (.var 5) (plcE (.var 1))), (.bin .eq (.var 4) (magE (.var 1))), (.bin .eq (.var 3) (plcE (.var 0))), (.bin .eq (.var 2) (magE (.var 0)))], (.int .i64 (.lit 0))),
  ([(.bin .le (.ite (.bin .le (.lit 9223372036854775808) (.var 0)) (.bin .sub (.lit 9223372036854775808) (.var 0)) (.var 0)) (.ite (.bin .le (.lit 9223372036854775808) (.var 1)) (.bin .sub (.lit 9223372036854775808) (.var 1)) (.var 1))), (.bin .le (.ite (.bin .le (.lit 9223372036854775808) (.var 1)) (.bin .sub (.lit 9223372036854775808) (.var 1)) (.var 1)) (.ite (.bin .le (.lit 9223372036854775808) (.var 0)) (.bin .sub (.lit 9223372036854775808) (.var 0)) (.var 0))), (.bin .le (.bin .emod (.var 1) (.lit 9223372036854775808)) (.lit 9218868437227405312)), (.bin .le (.bin .emod (.var 0) (.lit 9223372036854775808)) (.lit 9218868437227405312)), (.bin .eq (.var 5) (plcE (.var 1))), (.bin .eq (.var 4) (magE (.var 1))), (.bin .eq (.var 3) (plcE (.var 0))), (.bin .eq (.var 2) (magE (.var 0)))], (.int .i64 (.lit 1))),
  ([(.bin .lt (.ite (.bin .le (.lit 9223372036854775808) (.var 1)) (.bin .sub (.lit 9223372036854775808) (.var 1)) (.var 1)) (.ite (.bin .le (.lit 9223372036854775808) (.var 0)) (.bin .sub (.lit 9223372036854775808) (.var 0)) (.var 0))), (.bin .le (.ite (.bin .le (.lit 9223372036854775808) (.var 1)) (.bin .sub (.lit 9223372036854775808) (.var 1)) (.var 1)) (.ite (.bin .le (.lit 9223372036854775808) (.var 0)) (.bin .sub (.lit 9223372036854775808) (.var 0)) (.var 0))), (.bin .le (.bin .emod (.var 1) (.lit 9223372036854775808)) (.lit 9218868437227405312)), (.bin .le (.bin .emod (.var 0) (.lit 9223372036854775808)) (.lit 9218868437227405312)), (.bin .eq (.var 5) (plcE (.var 1))), (.bin .eq (.var 4) (magE (.var 1))), (.bin .eq (.var 3) (plcE (.var 0))), (.bin .eq (.var 2) (magE (.var 0)))], (.int .i64 (.lit 0))),
  ([(.bin .le (.ite (.bin .le (.lit 9223372036854775808) (.var 0)) (.bin .sub (.lit 9223372036854775808) (.var 0)) (.var 0)) (.ite (.bin .le (.lit 9223372036854775808) (.var 1)) (.bin .sub (.lit 9223372036854775808) (.var 1)) (.var 1))), (.bin .lt (.ite (.bin .le (.lit 9223372036854775808) (.var 0)) (.bin .sub (.lit 9223372036854775808) (.var 0)) (.var 0)) (.ite (.bin .le (.lit 9223372036854775808) (.var 1)) (.bin .sub (.lit 9223372036854775808) (.var 1)) (.var 1))), (.bin .le (.bin .emod (.var 1) (.lit 9223372036854775808)) (.lit 9218868437227405312)), (.bin .le (.bin .emod (.var 0) (.lit 9223372036854775808)) (.lit 9218868437227405312)), (.bin .eq (.var 5) (plcE (.var 1))), (.bin .eq (.var 4) (magE (.var 1))), (.bin .eq (.var 3) (plcE (.var 0))), (.bin .eq (.var 2) (magE (.var 0)))], (.int .i64 (.lit 1))),
  ([(.bin .lt (.ite (.bin .le (.lit 9223372036854775808) (.var 1)) (.bin .sub (.lit 9223372036854775808) (.var 1)) (.var 1)) (.ite (.bin .le (.lit 9223372036854775808) (.var 0)) (.bin .sub (.lit 9223372036854775808) (.var 0)) (.var 0))), (.bin .lt (.ite (.bin .le (.lit 9223372036854775808) (.var 0)) (.bin .sub (.lit 9223372036854775808) (.var 0)) (.var 0)) (.ite (.bin .le (.lit 9223372036854775808) (.var 1)) (.bin .sub (.lit 9223372036854775808) (.var 1)) (.var 1))), (.bin .le (.bin .emod (.var 1) (.lit 9223372036854775808)) (.lit 9218868437227405312)), (.bin .le (.bin .emod (.var 0) (.lit 9223372036854775808)) (.lit 9218868437227405312)), (.bin .eq (.var 5) (plcE (.var 1))), (.bin .eq (.var 4) (magE (.var 1))), (.bin .eq (.var 3) (plcE (.var 0))), (.bin .eq (.var 2) (magE (.var 0)))], (.int .i64 (.lit 0)))]
set_option maxRecDepth 100000 in
theorem compDK4Ran : runOfG Try.prog (orcs (nameO (gOracle [apartD])) (gOracle [lessD])) noLoops (bodies fns) [] 4000 (compDK 4) = some compDK4R := by kernel_rfl
def compDK5R : List Leaf := [
  ([(.bin .lt (.lit 9218868437227405312) (.bin .emod (.var 0) (.lit 9223372036854775808))), (.bin .eq (.var 5) (plcE (.var 1))), (.bin .eq (.var 4) (magE (.var 1))), (.bin .eq (.var 3) (plcE (.var 0))), (.bin .eq (.var 2) (magE (.var 0)))], (.int .i64 (.lit 0))),
  ([(.bin .lt (.lit 9218868437227405312) (.bin .emod (.var 1) (.lit 9223372036854775808))), (.bin .le (.bin .emod (.var 0) (.lit 9223372036854775808)) (.lit 9218868437227405312)), (.bin .eq (.var 5) (plcE (.var 1))), (.bin .eq (.var 4) (magE (.var 1))), (.bin .eq (.var 3) (plcE (.var 0))), (.bin .eq (.var 2) (magE (.var 0)))], (.int .i64 (.lit 0))),
  ([(.bin .le (.ite (.bin .le (.lit 9223372036854775808) (.var 1)) (.bin .sub (.lit 9223372036854775808) (.var 1)) (.var 1)) (.ite (.bin .le (.lit 9223372036854775808) (.var 0)) (.bin .sub (.lit 9223372036854775808) (.var 0)) (.var 0))), (.bin .le (.bin .emod (.var 1) (.lit 9223372036854775808)) (.lit 9218868437227405312)), (.bin .le (.bin .emod (.var 0) (.lit 9223372036854775808)) (.lit 9218868437227405312)), (.bin .eq (.var 5) (plcE (.var 1))), (.bin .eq (.var 4) (magE (.var 1))), (.bin .eq (.var 3) (plcE (.var 0))), (.bin .eq (.var 2) (magE (.var 0)))], (.int .i64 (.lit 1))),
  ([(.bin .lt (.ite (.bin .le (.lit 9223372036854775808) (.var 0)) (.bin .sub (.lit 9223372036854775808) (.var 0)) (.var 0)) (.ite (.bin .le (.lit 9223372036854775808) (.var 1)) (.bin .sub (.lit 9223372036854775808) (.var 1)) (.var 1))), (.bin .le (.bin .emod (.var 1) (.lit 9223372036854775808)) (.lit 9218868437227405312)), (.bin .le (.bin .emod (.var 0) (.lit 9223372036854775808)) (.lit 9218868437227405312)), (.bin .eq (.var 5) (plcE (.var 1))), (.bin .eq (.var 4) (magE (.var 1))), (.bin .eq (.var 3) (plcE (.var 0))), (.bin .eq (.var 2) (magE (.var 0)))], (.int .i64 (.lit 0))),
  ([(.bin .lt (.lit 9218868437227405312) (.bin .emod (.var 0) (.lit 9223372036854775808))), (.bin .eq (.var 5) (plcE (.var 1))), (.bin .eq (.var 4) (magE (.var 1))), (.bin .eq (.var 3) (plcE (.var 0))), (.bin .eq (.var 2) (magE (.var 0)))], (.int .i64 (.lit 0))),
  ([(.bin .lt (.lit 9218868437227405312) (.bin .emod (.var 1) (.lit 9223372036854775808))), (.bin .le (.bin .emod (.var 0) (.lit 9223372036854775808)) (.lit 9218868437227405312)), (.bin .eq (.var 5) (plcE (.var 1))), (.bin .eq (.var 4) (magE (.var 1))), (.bin .eq (.var 3) (plcE (.var 0))), (.bin .eq (.var 2) (magE (.var 0)))], (.int .i64 (.lit 0))),
  ([(.bin .le (.ite (.bin .le (.lit 9223372036854775808) (.var 1)) (.bin .sub (.lit 9223372036854775808) (.var 1)) (.var 1)) (.ite (.bin .le (.lit 9223372036854775808) (.var 0)) (.bin .sub (.lit 9223372036854775808) (.var 0)) (.var 0))), (.bin .le (.bin .emod (.var 1) (.lit 9223372036854775808)) (.lit 9218868437227405312)), (.bin .le (.bin .emod (.var 0) (.lit 9223372036854775808)) (.lit 9218868437227405312)), (.bin .eq (.var 5) (plcE (.var 1))), (.bin .eq (.var 4) (magE (.var 1))), (.bin .eq (.var 3) (plcE (.var 0))), (.bin .eq (.var 2) (magE (.var 0)))], (.int .i64 (.lit 1))),
  ([(.bin .lt (.ite (.bin .le (.lit 9223372036854775808) (.var 0)) (.bin .sub (.lit 9223372036854775808) (.var 0)) (.var 0)) (.ite (.bin .le (.lit 9223372036854775808) (.var 1)) (.bin .sub (.lit 9223372036854775808) (.var 1)) (.var 1))), (.bin .le (.bin .emod (.var 1) (.lit 9223372036854775808)) (.lit 9218868437227405312)), (.bin .le (.bin .emod (.var 0) (.lit 9223372036854775808)) (.lit 9218868437227405312)), (.bin .eq (.var 5) (plcE (.var 1))), (.bin .eq (.var 4) (magE (.var 1))), (.bin .eq (.var 3) (plcE (.var 0))), (.bin .eq (.var 2) (magE (.var 0)))], (.int .i64 (.lit 0)))]
set_option maxRecDepth 100000 in
theorem compDK5Ran : runOfG Try.prog (orcs (nameO (gOracle [apartD])) (gOracle [lessD])) noLoops (bodies fns) [] 4000 (compDK 5) = some compDK5R := by kernel_rfl
end Go.Proofs.Ytnodelimomljbaa.RunRefF

/- The ways of the reference's floats through numbers, and that the code takes no other. No condition. -/
namespace Go.Proofs.Ytnodelimomljbaa.RunRefD
open Go Go.Sx Go.Sx.Flt Go.Sx.Ref

def quoDR : List Leaf := [
  ([(.var 2), (.bin .le (.lit 0) (.var 3)), (.bin .le (.var 3) (.lit 9007199254740991)), (.bin .le (.lit (-1074)) (.var 4)), (.bin .le (.var 4) (.lit 971)), (.bin .le (.lit 0) (.var 8)), (.bin .le (.var 8) (.lit 9007199254740991)), (.bin .le (.lit (-1074)) (.var 9)), (.bin .le (.var 9) (.lit 971))], (.int .u64 (.lit 9221120237041090560))),
  ([(.var 7), (.un .bnot (.var 2)), (.bin .le (.lit 0) (.var 3)), (.bin .le (.var 3) (.lit 9007199254740991)), (.bin .le (.lit (-1074)) (.var 4)), (.bin .le (.var 4) (.lit 971)), (.bin .le (.lit 0) (.var 8)), (.bin .le (.var 8) (.lit 9007199254740991)), (.bin .le (.lit (-1074)) (.var 9)), (.bin .le (.var 9) (.lit 971))], (.int .u64 (.lit 9221120237041090560))),
  ([(.var 6), (.var 1), (.un .bnot (.var 7)), (.un .bnot (.var 2)), (.bin .le (.lit 0) (.var 3)), (.bin .le (.var 3) (.lit 9007199254740991)), (.bin .le (.lit (-1074)) (.var 4)), (.bin .le (.var 4) (.lit 971)), (.bin .le (.lit 0) (.var 8)), (.bin .le (.var 8) (.lit 9007199254740991)), (.bin .le (.lit (-1074)) (.var 9)), (.bin .le (.var 9) (.lit 971))], (.int .u64 (.lit 9221120237041090560))),
  ([(.un .bnot (.var 6)), (.var 1), (.un .bnot (.var 7)), (.un .bnot (.var 2)), (.bin .le (.lit 0) (.var 3)), (.bin .le (.var 3) (.lit 9007199254740991)), (.bin .le (.lit (-1074)) (.var 4)), (.bin .le (.var 4) (.lit 971)), (.bin .le (.lit 0) (.var 8)), (.bin .le (.var 8) (.lit 9007199254740991)), (.bin .le (.lit (-1074)) (.var 9)), (.bin .le (.var 9) (.lit 971))], (.int .u64 (.ite (.un .bnot (.bin .eq (.un .bnot (.un .bnot (.var 0))) (.un .bnot (.un .bnot (.var 5))))) (.lit 18442240474082181120) (.lit 9218868437227405312)))),
  ([(.bin .eq (.var 8) (.lit 0)), (.bin .eq (.var 3) (.lit 0)), (.un .bnot (.var 6)), (.un .bnot (.var 1)), (.un .bnot (.var 7)), (.un .bnot (.var 2)), (.bin .le (.lit 0) (.var 3)), (.bin .le (.var 3) (.lit 9007199254740991)), (.bin .le (.lit (-1074)) (.var 4)), (.bin .le (.var 4) (.lit 971)), (.bin .le (.lit 0) (.var 8)), (.bin .le (.var 8) (.lit 9007199254740991)), (.bin .le (.lit (-1074)) (.var 9)), (.bin .le (.var 9) (.lit 971))], (.int .u64 (.lit 9221120237041090560))),
  ([(.un .bnot (.bin .eq (.var 8) (.lit 0))), (.bin .eq (.var 3) (.lit 0)), (.un .bnot (.var 6)), (.un .bnot (.var 1)), (.un .bnot (.var 7)), (.un .bnot (.var 2)), (.bin .le (.lit 0) (.var 3)), (.bin .le (.var 3) (.lit 9007199254740991)), (.bin .le (.lit (-1074)) (.var 4)), (.bin .le (.var 4) (.lit 971)), (.bin .le (.lit 0) (.var 8)), (.bin .le (.var 8) (.lit 9007199254740991)), (.bin .le (.lit (-1074)) (.var 9)), (.bin .le (.var 9) (.lit 971))], (.int .u64 (.ite (.un .bnot (.bin .eq (.un .bnot (.un .bnot (.var 0))) (.un .bnot (.un .bnot (.var 5))))) (.lit 9223372036854775808) (.lit 0)))),
  ([(.bin .eq (.var 8) (.lit 0)), (.un .bnot (.bin .eq (.var 3) (.lit 0))), (.un .bnot (.var 6)), (.un .bnot (.var 1)), (.un .bnot (.var 7)), (.un .bnot (.var 2)), (.bin .le (.lit 0) (.var 3)), (.bin .le (.var 3) (.lit 9007199254740991)), (.bin .le (.lit (-1074)) (.var 4)), (.bin .le (.var 4) (.lit 971)), (.bin .le (.lit 0) (.var 8)), (.bin .le (.var 8) (.lit 9007199254740991)), (.bin .le (.lit (-1074)) (.var 9)), (.bin .le (.var 9) (.lit 971))], (.int .u64 (.ite (.un .bnot (.bin .eq (.un .bnot (.un .bnot (.var 0))) (.un .bnot (.un .bnot (.var 5))))) (.lit 18442240474082181120) (.lit 9218868437227405312)))),
  ([(.un .bnot (.bin .eq (.fn 13 (.lit 0) (.bin .add (.bin .mul (.bin .ediv (.bin (.shl .u64) (.var 3) (.bin .sub (.lit 64) (.fn 0 (.var 3) (.lit 0) (.lit 0)))) (.lit 2)) (.lit 18446744073709551616)) (.un (.wrap .u64) (.bin .mul (.bin (.shl .u64) (.var 3) (.bin .sub (.lit 64) (.fn 0 (.var 3) (.lit 0) (.lit 0)))) (.lit 9223372036854775808)))) (.bin .add (.bin .mul (.bin (.shl .u64) (.var 8) (.bin .sub (.lit 64) (.fn 0 (.var 8) (.lit 0) (.lit 0)))) (.lit 128)) (.lit 64))) (.lit 0))), (.un .bnot (.bin .eq (.var 8) (.lit 0))), (.un .bnot (.bin .eq (.var 3) (.lit 0))), (.un .bnot (.var 6)), (.un .bnot (.var 1)), (.un .bnot (.var 7)), (.un .bnot (.var 2)), (.bin .le (.lit 0) (.var 3)), (.bin .le (.var 3) (.lit 9007199254740991)), (.bin .le (.lit (-1074)) (.var 4)), (.bin .le (.var 4) (.lit 971)), (.bin .le (.lit 0) (.var 8)), (.bin .le (.var 8) (.lit 9007199254740991)), (.bin .le (.lit (-1074)) (.var 9)), (.bin .le (.var 9) (.lit 971))], (.int .u64 (.bin .add (.ite (.un .bnot (.bin .eq (.un .bnot (.un .bnot (.var 0))) (.un .bnot (.un .bnot (.var 5))))) (.lit 9223372036854775808) (.lit 0)) (.fn 4 (.bin .add (.bin .mul (.bin .ediv (.fn 12 (.lit 0) (.bin .add (.bin .mul (.bin .ediv (.bin (.shl .u64) (.var 3) (.bin .sub (.lit 64) (.fn 0 (.var 3) (.lit 0) (.lit 0)))) (.lit 2)) (.lit 18446744073709551616)) (.un (.wrap .u64) (.bin .mul (.bin (.shl .u64) (.var 3) (.bin .sub (.lit 64) (.fn 0 (.var 3) (.lit 0) (.lit 0)))) (.lit 9223372036854775808)))) (.bin .add (.bin .mul (.bin (.shl .u64) (.var 8) (.bin .sub (.lit 64) (.fn 0 (.var 8) (.lit 0) (.lit 0)))) (.lit 128)) (.lit 64))) (.lit 9223372036854775808)) (.lit 18446744073709551616)) (.bin (.bits .or .u64) (.un (.wrap .u64) (.bin .mul (.fn 12 (.lit 0) (.bin .add (.bin .mul (.bin .ediv (.bin (.shl .u64) (.var 3) (.bin .sub (.lit 64) (.fn 0 (.var 3) (.lit 0) (.lit 0)))) (.lit 2)) (.lit 18446744073709551616)) (.un (.wrap .u64) (.bin .mul (.bin (.shl .u64) (.var 3) (.bin .sub (.lit 64) (.fn 0 (.var 3) (.lit 0) (.lit 0)))) (.lit 9223372036854775808)))) (.bin .add (.bin .mul (.bin (.shl .u64) (.var 8) (.bin .sub (.lit 64) (.fn 0 (.var 8) (.lit 0) (.lit 0)))) (.lit 128)) (.lit 64))) (.lit 2))) (.lit 1))) (.bin .add (.bin .sub (.bin .sub (.var 4) (.bin .sub (.lit 64) (.fn 0 (.var 3) (.lit 0) (.lit 0)))) (.bin .sub (.var 9) (.bin .sub (.lit 64) (.fn 0 (.var 8) (.lit 0) (.lit 0))))) (.lit (-64))) (.lit 0))))),
  ([(.bin .eq (.fn 13 (.lit 0) (.bin .add (.bin .mul (.bin .ediv (.bin (.shl .u64) (.var 3) (.bin .sub (.lit 64) (.fn 0 (.var 3) (.lit 0) (.lit 0)))) (.lit 2)) (.lit 18446744073709551616)) (.un (.wrap .u64) (.bin .mul (.bin (.shl .u64) (.var 3) (.bin .sub (.lit 64) (.fn 0 (.var 3) (.lit 0) (.lit 0)))) (.lit 9223372036854775808)))) (.bin .add (.bin .mul (.bin (.shl .u64) (.var 8) (.bin .sub (.lit 64) (.fn 0 (.var 8) (.lit 0) (.lit 0)))) (.lit 128)) (.lit 64))) (.lit 0)), (.un .bnot (.bin .eq (.var 8) (.lit 0))), (.un .bnot (.bin .eq (.var 3) (.lit 0))), (.un .bnot (.var 6)), (.un .bnot (.var 1)), (.un .bnot (.var 7)), (.un .bnot (.var 2)), (.bin .le (.lit 0) (.var 3)), (.bin .le (.var 3) (.lit 9007199254740991)), (.bin .le (.lit (-1074)) (.var 4)), (.bin .le (.var 4) (.lit 971)), (.bin .le (.lit 0) (.var 8)), (.bin .le (.var 8) (.lit 9007199254740991)), (.bin .le (.lit (-1074)) (.var 9)), (.bin .le (.var 9) (.lit 971))], (.int .u64 (.bin .add (.ite (.un .bnot (.bin .eq (.un .bnot (.un .bnot (.var 0))) (.un .bnot (.un .bnot (.var 5))))) (.lit 9223372036854775808) (.lit 0)) (.fn 4 (.bin .add (.bin .mul (.bin .ediv (.fn 12 (.lit 0) (.bin .add (.bin .mul (.bin .ediv (.bin (.shl .u64) (.var 3) (.bin .sub (.lit 64) (.fn 0 (.var 3) (.lit 0) (.lit 0)))) (.lit 2)) (.lit 18446744073709551616)) (.un (.wrap .u64) (.bin .mul (.bin (.shl .u64) (.var 3) (.bin .sub (.lit 64) (.fn 0 (.var 3) (.lit 0) (.lit 0)))) (.lit 9223372036854775808)))) (.bin .add (.bin .mul (.bin (.shl .u64) (.var 8) (.bin .sub (.lit 64) (.fn 0 (.var 8) (.lit 0) (.lit 0)))) (.lit 128)) (.lit 64))) (.lit 9223372036854775808)) (.lit 18446744073709551616)) (.un (.wrap .u64) (.bin .mul (.fn 12 (.lit 0) (.bin .add (.bin .mul (.bin .ediv (.bin (.shl .u64) (.var 3) (.bin .sub (.lit 64) (.fn 0 (.var 3) (.lit 0) (.lit 0)))) (.lit 2)) (.lit 18446744073709551616)) (.un (.wrap .u64) (.bin .mul (.bin (.shl .u64) (.var 3) (.bin .sub (.lit 64) (.fn 0 (.var 3) (.lit 0) (.lit 0)))) (.lit 9223372036854775808)))) (.bin .add (.bin .mul (.bin (.shl .u64) (.var 8) (.bin .sub (.lit 64) (.fn 0 (.var 8) (.lit 0) (.lit 0)))) (.lit 128)) (.lit 64))) (.lit 2)))) (.bin .add (.bin .sub (.bin .sub (.var 4) (.bin .sub (.lit 64) (.fn 0 (.var 3) (.lit 0) (.lit 0)))) (.bin .sub (.var 9) (.bin .sub (.lit 64) (.fn 0 (.var 8) (.lit 0) (.lit 0))))) (.lit (-64))) (.lit 0))))),
  ([(.var 6), (.un .bnot (.un .bnot (.var 6))), (.un .bnot (.var 1)), (.un .bnot (.var 7)), (.un .bnot (.var 2)), (.bin .le (.lit 0) (.var 3)), (.bin .le (.var 3) (.lit 9007199254740991)), (.bin .le (.lit (-1074)) (.var 4)), (.bin .le (.var 4) (.lit 971)), (.bin .le (.lit 0) (.var 8)), (.bin .le (.var 8) (.lit 9007199254740991)), (.bin .le (.lit (-1074)) (.var 9)), (.bin .le (.var 9) (.lit 971))], (.int .u64 (.ite (.un .bnot (.bin .eq (.un .bnot (.un .bnot (.var 0))) (.un .bnot (.un .bnot (.var 5))))) (.lit 9223372036854775808) (.lit 0)))),
  ([(.bin .eq (.var 3) (.lit 0)), (.un .bnot (.var 6)), (.un .bnot (.un .bnot (.var 6))), (.un .bnot (.var 1)), (.un .bnot (.var 7)), (.un .bnot (.var 2)), (.bin .le (.lit 0) (.var 3)), (.bin .le (.var 3) (.lit 9007199254740991)), (.bin .le (.lit (-1074)) (.var 4)), (.bin .le (.var 4) (.lit 971)), (.bin .le (.lit 0) (.var 8)), (.bin .le (.var 8) (.lit 9007199254740991)), (.bin .le (.lit (-1074)) (.var 9)), (.bin .le (.var 9) (.lit 971))], (.int .u64 (.ite (.un .bnot (.bin .eq (.un .bnot (.un .bnot (.var 0))) (.un .bnot (.un .bnot (.var 5))))) (.lit 9223372036854775808) (.lit 0)))),
  ([(.un .bnot (.bin .eq (.fn 13 (.lit 0) (.bin .add (.bin .mul (.bin .ediv (.bin (.shl .u64) (.var 3) (.bin .sub (.lit 64) (.fn 0 (.var 3) (.lit 0) (.lit 0)))) (.lit 2)) (.lit 18446744073709551616)) (.un (.wrap .u64) (.bin .mul (.bin (.shl .u64) (.var 3) (.bin .sub (.lit 64) (.fn 0 (.var 3) (.lit 0) (.lit 0)))) (.lit 9223372036854775808)))) (.bin .add (.bin .mul (.bin (.shl .u64) (.var 8) (.bin .sub (.lit 64) (.fn 0 (.var 8) (.lit 0) (.lit 0)))) (.lit 128)) (.lit 64))) (.lit 0))), (.un .bnot (.bin .eq (.var 3) (.lit 0))), (.un .bnot (.var 6)), (.un .bnot (.un .bnot (.var 6))), (.un .bnot (.var 1)), (.un .bnot (.var 7)), (.un .bnot (.var 2)), (.bin .le (.lit 0) (.var 3)), (.bin .le (.var 3) (.lit 9007199254740991)), (.bin .le (.lit (-1074)) (.var 4)), (.bin .le (.var 4) (.lit 971)), (.bin .le (.lit 0) (.var 8)), (.bin .le (.var 8) (.lit 9007199254740991)), (.bin .le (.lit (-1074)) (.var 9)), (.bin .le (.var 9) (.lit 971))], (.int .u64 (.bin .add (.ite (.un .bnot (.bin .eq (.un .bnot (.un .bnot (.var 0))) (.un .bnot (.un .bnot (.var 5))))) (.lit 9223372036854775808) (.lit 0)) (.fn 4 (.bin .add (.bin .mul (.bin .ediv (.fn 12 (.lit 0) (.bin .add (.bin .mul (.bin .ediv (.bin (.shl .u64) (.var 3) (.bin .sub (.lit 64) (.fn 0 (.var 3) (.lit 0) (.lit 0)))) (.lit 2)) (.lit 18446744073709551616)) (.un (.wrap .u64) (.bin .mul (.bin (.shl .u64) (.var 3) (.bin .sub (.lit 64) (.fn 0 (.var 3) (.lit 0) (.lit 0)))) (.lit 9223372036854775808)))) (.bin .add (.bin .mul (.bin (.shl .u64) (.var 8) (.bin .sub (.lit 64) (.fn 0 (.var 8) (.lit 0) (.lit 0)))) (.lit 128)) (.lit 64))) (.lit 9223372036854775808)) (.lit 18446744073709551616)) (.bin (.bits .or .u64) (.un (.wrap .u64) (.bin .mul (.fn 12 (.lit 0) (.bin .add (.bin .mul (.bin .ediv (.bin (.shl .u64) (.var 3) (.bin .sub (.lit 64) (.fn 0 (.var 3) (.lit 0) (.lit 0)))) (.lit 2)) (.lit 18446744073709551616)) (.un (.wrap .u64) (.bin .mul (.bin (.shl .u64) (.var 3) (.bin .sub (.lit 64) (.fn 0 (.var 3) (.lit 0) (.lit 0)))) (.lit 9223372036854775808)))) (.bin .add (.bin .mul (.bin (.shl .u64) (.var 8) (.bin .sub (.lit 64) (.fn 0 (.var 8) (.lit 0) (.lit 0)))) (.lit 128)) (.lit 64))) (.lit 2))) (.lit 1))) (.bin .add (.bin .sub (.bin .sub (.var 4) (.bin .sub (.lit 64) (.fn 0 (.var 3) (.lit 0) (.lit 0)))) (.bin .sub (.var 9) (.bin .sub (.lit 64) (.fn 0 (.var 8) (.lit 0) (.lit 0))))) (.lit (-64))) (.lit 0))))),
  ([(.bin .eq (.fn 13 (.lit 0) (.bin .add (.bin .mul (.bin .ediv (.bin (.shl .u64) (.var 3) (.bin .sub (.lit 64) (.fn 0 (.var 3) (.lit 0) (.lit 0)))) (.lit 2)) (.lit 18446744073709551616)) (.un (.wrap .u64) (.bin .mul (.bin (.shl .u64) (.var 3) (.bin .sub (.lit 64) (.fn 0 (.var 3) (.lit 0) (.lit 0)))) (.lit 9223372036854775808)))) (.bin .add (.bin .mul (.bin (.shl .u64) (.var 8) (.bin .sub (.lit 64) (.fn 0 (.var 8) (.lit 0) (.lit 0)))) (.lit 128)) (.lit 64))) (.lit 0)), (.un .bnot (.bin .eq (.var 3) (.lit 0))), (.un .bnot (.var 6)), (.un .bnot (.un .bnot (.var 6))), (.un .bnot (.var 1)), (.un .bnot (.var 7)), (.un .bnot (.var 2)), (.bin .le (.lit 0) (.var 3)), (.bin .le (.var 3) (.lit 9007199254740991)), (.bin .le (.lit (-1074)) (.var 4)), (.bin .le (.var 4) (.lit 971)), (.bin .le (.lit 0) (.var 8)), (.bin .le (.var 8) (.lit 9007199254740991)), (.bin .le (.lit (-1074)) (.var 9)), (.bin .le (.var 9) (.lit 971))], (.int .u64 (.bin .add (.ite (.un .bnot (.bin .eq (.un .bnot (.un .bnot (.var 0))) (.un .bnot (.un .bnot (.var 5))))) (.lit 9223372036854775808) (.lit 0)) (.fn 4 (.bin .add (.bin .mul (.bin .ediv (.fn 12 (.lit 0) (.bin .add (.bin .mul (.bin .ediv (.bin (.shl .u64) (.var 3) (.bin .sub (.lit 64) (.fn 0 (.var 3) (.lit 0) (.lit 0)))) (.lit 2)) (.lit 18446744073709551616)) (.un (.wrap .u64) (.bin .mul (.bin (.shl .u64) (.var 3) (.bin .sub (.lit 64) (.fn 0 (.var 3) (.lit 0) (.lit 0)))) (.lit 9223372036854775808)))) (.bin .add (.bin .mul (.bin (.shl .u64) (.var 8) (.bin .sub (.lit 64) (.fn 0 (.var 8) (.lit 0) (.lit 0)))) (.lit 128)) (.lit 64))) (.lit 9223372036854775808)) (.lit 18446744073709551616)) (.un (.wrap .u64) (.bin .mul (.fn 12 (.lit 0) (.bin .add (.bin .mul (.bin .ediv (.bin (.shl .u64) (.var 3) (.bin .sub (.lit 64) (.fn 0 (.var 3) (.lit 0) (.lit 0)))) (.lit 2)) (.lit 18446744073709551616)) (.un (.wrap .u64) (.bin .mul (.bin (.shl .u64) (.var 3) (.bin .sub (.lit 64) (.fn 0 (.var 3) (.lit 0) (.lit 0)))) (.lit 9223372036854775808)))) (.bin .add (.bin .mul (.bin (.shl .u64) (.var 8) (.bin .sub (.lit 64) (.fn 0 (.var 8) (.lit 0) (.lit 0)))) (.lit 128)) (.lit 64))) (.lit 2)))) (.bin .add (.bin .sub (.bin .sub (.var 4) (.bin .sub (.lit 64) (.fn 0 (.var 3) (.lit 0) (.lit 0)))) (.bin .sub (.var 9) (.bin .sub (.lit 64) (.fn 0 (.var 8) (.lit 0) (.lit 0))))) (.lit (-64))) (.lit 0)))))]
set_option maxRecDepth 100000 in
theorem quoDRan : runOfG Try.prog (orcs (gOracle (gsD0 ++ [rndD])) (specOracle [lenT, divS])) noLoops (bodies fns) [] 4000 quoD = some quoDR := by kernel_rfl
def rootDR : List Leaf := [
  ([(.var 2), (.bin .le (.lit 0) (.var 3)), (.bin .le (.var 3) (.lit 9007199254740991)), (.bin .le (.lit (-1074)) (.var 4)), (.bin .le (.var 4) (.lit 971))], (.int .u64 (.lit 9221120237041090560))),
  ([(.var 1), (.var 0), (.un .bnot (.var 2)), (.bin .le (.lit 0) (.var 3)), (.bin .le (.var 3) (.lit 9007199254740991)), (.bin .le (.lit (-1074)) (.var 4)), (.bin .le (.var 4) (.lit 971))], (.int .u64 (.lit 9221120237041090560))),
  ([(.un .bnot (.bin .eq (.var 3) (.lit 0))), (.un .bnot (.var 1)), (.var 0), (.un .bnot (.var 2)), (.bin .le (.lit 0) (.var 3)), (.bin .le (.var 3) (.lit 9007199254740991)), (.bin .le (.lit (-1074)) (.var 4)), (.bin .le (.var 4) (.lit 971))], (.int .u64 (.lit 9221120237041090560))),
  ([(.bin .eq (.var 3) (.lit 0)), (.un .bnot (.var 1)), (.var 0), (.un .bnot (.var 2)), (.bin .le (.lit 0) (.var 3)), (.bin .le (.var 3) (.lit 9007199254740991)), (.bin .le (.lit (-1074)) (.var 4)), (.bin .le (.var 4) (.lit 971))], (.int .u64 (.ite (.un .bnot (.un .bnot (.var 0))) (.lit 9223372036854775808) (.lit 0)))),
  ([(.var 1), (.un .bnot (.var 0)), (.un .bnot (.var 2)), (.bin .le (.lit 0) (.var 3)), (.bin .le (.var 3) (.lit 9007199254740991)), (.bin .le (.lit (-1074)) (.var 4)), (.bin .le (.var 4) (.lit 971))], (.int .u64 (.ite (.un .bnot (.un .bnot (.lit 0))) (.lit 18442240474082181120) (.lit 9218868437227405312)))),
  ([(.bin .eq (.var 3) (.lit 0)), (.un .bnot (.var 1)), (.un .bnot (.var 0)), (.un .bnot (.var 2)), (.bin .le (.lit 0) (.var 3)), (.bin .le (.var 3) (.lit 9007199254740991)), (.bin .le (.lit (-1074)) (.var 4)), (.bin .le (.var 4) (.lit 971))], (.int .u64 (.ite (.un .bnot (.un .bnot (.var 0))) (.lit 9223372036854775808) (.lit 0)))),
  ([(.un .bnot (.bin .eq (.un (.wrap .u64) (.bin .ediv (.bin .mul (.un (.wrap .u64) (.fn 14 (.lit 0) (.bin .add (.bin .mul (.bin (.shl .u64) (.var 3) (.bin .add (.bin .sub (.lit 64) (.fn 0 (.var 3) (.lit 0) (.lit 0))) (.lit (-3)))) (.lit 18446744073709551616)) (.lit 0)) (.lit 64))) (.un (.wrap .u64) (.fn 14 (.lit 0) (.bin .add (.bin .mul (.bin (.shl .u64) (.var 3) (.bin .add (.bin .sub (.lit 64) (.fn 0 (.var 3) (.lit 0) (.lit 0))) (.lit (-3)))) (.lit 18446744073709551616)) (.lit 0)) (.lit 64)))) (.lit 18446744073709551616))) (.bin (.shl .u64) (.var 3) (.bin .add (.bin .sub (.lit 64) (.fn 0 (.var 3) (.lit 0) (.lit 0))) (.lit (-3)))))), (.bin .eq (.bin .emod (.bin .sub (.var 4) (.bin .add (.bin .sub (.lit 64) (.fn 0 (.var 3) (.lit 0) (.lit 0))) (.lit 62))) (.lit 2)) (.lit 1)), (.un .bnot (.bin .eq (.var 3) (.lit 0))), (.un .bnot (.var 1)), (.un .bnot (.var 0)), (.un .bnot (.var 2)), (.bin .le (.lit 0) (.var 3)), (.bin .le (.var 3) (.lit 9007199254740991)), (.bin .le (.lit (-1074)) (.var 4)), (.bin .le (.var 4) (.lit 971))], (.int .u64 (.bin .add (.ite (.un .bnot (.un .bnot (.lit 0))) (.lit 9223372036854775808) (.lit 0)) (.fn 4 (.bin .add (.bin .mul (.bin .ediv (.un (.wrap .u64) (.fn 14 (.lit 0) (.bin .add (.bin .mul (.bin (.shl .u64) (.var 3) (.bin .add (.bin .sub (.lit 64) (.fn 0 (.var 3) (.lit 0) (.lit 0))) (.lit (-3)))) (.lit 18446744073709551616)) (.lit 0)) (.lit 64))) (.lit 9223372036854775808)) (.lit 18446744073709551616)) (.bin (.bits .or .u64) (.un (.wrap .u64) (.bin .mul (.un (.wrap .u64) (.fn 14 (.lit 0) (.bin .add (.bin .mul (.bin (.shl .u64) (.var 3) (.bin .add (.bin .sub (.lit 64) (.fn 0 (.var 3) (.lit 0) (.lit 0))) (.lit (-3)))) (.lit 18446744073709551616)) (.lit 0)) (.lit 64))) (.lit 2))) (.lit 1))) (.bin .add (.bin .tdiv (.bin .sub (.var 4) (.bin .add (.bin .sub (.lit 64) (.fn 0 (.var 3) (.lit 0) (.lit 0))) (.lit 61))) (.lit 2)) (.lit (-1))) (.lit 0))))),
  ([(.un .bnot (.bin .eq (.un (.wrap .u64) (.bin .mul (.un (.wrap .u64) (.fn 14 (.lit 0) (.bin .add (.bin .mul (.bin (.shl .u64) (.var 3) (.bin .add (.bin .sub (.lit 64) (.fn 0 (.var 3) (.lit 0) (.lit 0))) (.lit (-3)))) (.lit 18446744073709551616)) (.lit 0)) (.lit 64))) (.un (.wrap .u64) (.fn 14 (.lit 0) (.bin .add (.bin .mul (.bin (.shl .u64) (.var 3) (.bin .add (.bin .sub (.lit 64) (.fn 0 (.var 3) (.lit 0) (.lit 0))) (.lit (-3)))) (.lit 18446744073709551616)) (.lit 0)) (.lit 64))))) (.lit 0))), (.bin .eq (.un (.wrap .u64) (.bin .ediv (.bin .mul (.un (.wrap .u64) (.fn 14 (.lit 0) (.bin .add (.bin .mul (.bin (.shl .u64) (.var 3) (.bin .add (.bin .sub (.lit 64) (.fn 0 (.var 3) (.lit 0) (.lit 0))) (.lit (-3)))) (.lit 18446744073709551616)) (.lit 0)) (.lit 64))) (.un (.wrap .u64) (.fn 14 (.lit 0) (.bin .add (.bin .mul (.bin (.shl .u64) (.var 3) (.bin .add (.bin .sub (.lit 64) (.fn 0 (.var 3) (.lit 0) (.lit 0))) (.lit (-3)))) (.lit 18446744073709551616)) (.lit 0)) (.lit 64)))) (.lit 18446744073709551616))) (.bin (.shl .u64) (.var 3) (.bin .add (.bin .sub (.lit 64) (.fn 0 (.var 3) (.lit 0) (.lit 0))) (.lit (-3))))), (.bin .eq (.bin .emod (.bin .sub (.var 4) (.bin .add (.bin .sub (.lit 64) (.fn 0 (.var 3) (.lit 0) (.lit 0))) (.lit 62))) (.lit 2)) (.lit 1)), (.un .bnot (.bin .eq (.var 3) (.lit 0))), (.un .bnot (.var 1)), (.un .bnot (.var 0)), (.un .bnot (.var 2)), (.bin .le (.lit 0) (.var 3)), (.bin .le (.var 3) (.lit 9007199254740991)), (.bin .le (.lit (-1074)) (.var 4)), (.bin .le (.var 4) (.lit 971))], (.int .u64 (.bin .add (.ite (.un .bnot (.un .bnot (.lit 0))) (.lit 9223372036854775808) (.lit 0)) (.fn 4 (.bin .add (.bin .mul (.bin .ediv (.un (.wrap .u64) (.fn 14 (.lit 0) (.bin .add (.bin .mul (.bin (.shl .u64) (.var 3) (.bin .add (.bin .sub (.lit 64) (.fn 0 (.var 3) (.lit 0) (.lit 0))) (.lit (-3)))) (.lit 18446744073709551616)) (.lit 0)) (.lit 64))) (.lit 9223372036854775808)) (.lit 18446744073709551616)) (.bin (.bits .or .u64) (.un (.wrap .u64) (.bin .mul (.un (.wrap .u64) (.fn 14 (.lit 0) (.bin .add (.bin .mul (.bin (.shl .u64) (.var 3) (.bin .add (.bin .sub (.lit 64) (.fn 0 (.var 3) (.lit 0) (.lit 0))) (.lit (-3)))) (.lit 18446744073709551616)) (.lit 0)) (.lit 64))) (.lit 2))) (.lit 1))) (.bin .add (.bin .tdiv (.bin .sub (.var 4) (.bin .add (.bin .sub (.lit 64) (.fn 0 (.var 3) (.lit 0) (.lit 0))) (.lit 61))) (.lit 2)) (.lit (-1))) (.lit 0))))),
  ([(.bin .eq (.un (.wrap .u64) (.bin .mul (.un (.wrap .u64) (.fn 14 (.lit 0) (.bin .add (.bin .mul (.bin (.shl .u64) (.var 3) (.bin .add (.bin .sub (.lit 64) (.fn 0 (.var 3) (.lit 0) (.lit 0))) (.lit (-3)))) (.lit 18446744073709551616)) (.lit 0)) (.lit 64))) (.un (.wrap .u64) (.fn 14 (.lit 0) (.bin .add (.bin .mul (.bin (.shl .u64) (.var 3) (.bin .add (.bin .sub (.lit 64) (.fn 0 (.var 3) (.lit 0) (.lit 0))) (.lit (-3)))) (.lit 18446744073709551616)) (.lit 0)) (.lit 64))))) (.lit 0)), (.bin .eq (.un (.wrap .u64) (.bin .ediv (.bin .mul (.un (.wrap .u64) (.fn 14 (.lit 0) (.bin .add (.bin .mul (.bin (.shl .u64) (.var 3) (.bin .add (.bin .sub (.lit 64) (.fn 0 (.var 3) (.lit 0) (.lit 0))) (.lit (-3)))) (.lit 18446744073709551616)) (.lit 0)) (.lit 64))) (.un (.wrap .u64) (.fn 14 (.lit 0) (.bin .add (.bin .mul (.bin (.shl .u64) (.var 3) (.bin .add (.bin .sub (.lit 64) (.fn 0 (.var 3) (.lit 0) (.lit 0))) (.lit (-3)))) (.lit 18446744073709551616)) (.lit 0)) (.lit 64)))) (.lit 18446744073709551616))) (.bin (.shl .u64) (.var 3) (.bin .add (.bin .sub (.lit 64) (.fn 0 (.var 3) (.lit 0) (.lit 0))) (.lit (-3))))), (.bin .eq (.bin .emod (.bin .sub (.var 4) (.bin .add (.bin .sub (.lit 64) (.fn 0 (.var 3) (.lit 0) (.lit 0))) (.lit 62))) (.lit 2)) (.lit 1)), (.un .bnot (.bin .eq (.var 3) (.lit 0))), (.un .bnot (.var 1)), (.un .bnot (.var 0)), (.un .bnot (.var 2)), (.bin .le (.lit 0) (.var 3)), (.bin .le (.var 3) (.lit 9007199254740991)), (.bin .le (.lit (-1074)) (.var 4)), (.bin .le (.var 4) (.lit 971))], (.int .u64 (.bin .add (.ite (.un .bnot (.un .bnot (.lit 0))) (.lit 9223372036854775808) (.lit 0)) (.fn 4 (.bin .add (.bin .mul (.bin .ediv (.un (.wrap .u64) (.fn 14 (.lit 0) (.bin .add (.bin .mul (.bin (.shl .u64) (.var 3) (.bin .add (.bin .sub (.lit 64) (.fn 0 (.var 3) (.lit 0) (.lit 0))) (.lit (-3)))) (.lit 18446744073709551616)) (.lit 0)) (.lit 64))) (.lit 9223372036854775808)) (.lit 18446744073709551616)) (.un (.wrap .u64) (.bin .mul (.un (.wrap .u64) (.fn 14 (.lit 0) (.bin .add (.bin .mul (.bin (.shl .u64) (.var 3) (.bin .add (.bin .sub (.lit 64) (.fn 0 (.var 3) (.lit 0) (.lit 0))) (.lit (-3)))) (.lit 18446744073709551616)) (.lit 0)) (.lit 64))) (.lit 2)))) (.bin .add (.bin .tdiv (.bin .sub (.var 4) (.bin .add (.bin .sub (.lit 64) (.fn 0 (.var 3) (.lit 0) (.lit 0))) (.lit 61))) (.lit 2)) (.lit (-1))) (.lit 0))))),
  ([(.un .bnot (.bin .eq (.un (.wrap .u64) (.bin .ediv (.bin .mul (.un (.wrap .u64) (.fn 14 (.lit 0) (.bin .add (.bin .mul (.bin (.shl .u64) (.var 3) (.bin .add (.bin .sub (.lit 64) (.fn 0 (.var 3) (.lit 0) (.lit 0))) (.lit (-2)))) (.lit 18446744073709551616)) (.lit 0)) (.lit 64))) (.un (.wrap .u64) (.fn 14 (.lit 0) (.bin .add (.bin .mul (.bin (.shl .u64) (.var 3) (.bin .add (.bin .sub (.lit 64) (.fn 0 (.var 3) (.lit 0) (.lit 0))) (.lit (-2)))) (.lit 18446744073709551616)) (.lit 0)) (.lit 64)))) (.lit 18446744073709551616))) (.bin (.shl .u64) (.var 3) (.bin .add (.bin .sub (.lit 64) (.fn 0 (.var 3) (.lit 0) (.lit 0))) (.lit (-2)))))), (.un .bnot (.bin .eq (.bin .emod (.bin .sub (.var 4) (.bin .add (.bin .sub (.lit 64) (.fn 0 (.var 3) (.lit 0) (.lit 0))) (.lit 62))) (.lit 2)) (.lit 1))), (.un .bnot (.bin .eq (.var 3) (.lit 0))), (.un .bnot (.var 1)), (.un .bnot (.var 0)), (.un .bnot (.var 2)), (.bin .le (.lit 0) (.var 3)), (.bin .le (.var 3) (.lit 9007199254740991)), (.bin .le (.lit (-1074)) (.var 4)), (.bin .le (.var 4) (.lit 971))], (.int .u64 (.bin .add (.ite (.un .bnot (.un .bnot (.lit 0))) (.lit 9223372036854775808) (.lit 0)) (.fn 4 (.bin .add (.bin .mul (.bin .ediv (.un (.wrap .u64) (.fn 14 (.lit 0) (.bin .add (.bin .mul (.bin (.shl .u64) (.var 3) (.bin .add (.bin .sub (.lit 64) (.fn 0 (.var 3) (.lit 0) (.lit 0))) (.lit (-2)))) (.lit 18446744073709551616)) (.lit 0)) (.lit 64))) (.lit 9223372036854775808)) (.lit 18446744073709551616)) (.bin (.bits .or .u64) (.un (.wrap .u64) (.bin .mul (.un (.wrap .u64) (.fn 14 (.lit 0) (.bin .add (.bin .mul (.bin (.shl .u64) (.var 3) (.bin .add (.bin .sub (.lit 64) (.fn 0 (.var 3) (.lit 0) (.lit 0))) (.lit (-2)))) (.lit 18446744073709551616)) (.lit 0)) (.lit 64))) (.lit 2))) (.lit 1))) (.bin .add (.bin .tdiv (.bin .sub (.var 4) (.bin .add (.bin .sub (.lit 64) (.fn 0 (.var 3) (.lit 0) (.lit 0))) (.lit 62))) (.lit 2)) (.lit (-1))) (.lit 0))))),
  ([(.un .bnot (.bin .eq (.un (.wrap .u64) (.bin .mul (.un (.wrap .u64) (.fn 14 (.lit 0) (.bin .add (.bin .mul (.bin (.shl .u64) (.var 3) (.bin .add (.bin .sub (.lit 64) (.fn 0 (.var 3) (.lit 0) (.lit 0))) (.lit (-2)))) (.lit 18446744073709551616)) (.lit 0)) (.lit 64))) (.un (.wrap .u64) (.fn 14 (.lit 0) (.bin .add (.bin .mul (.bin (.shl .u64) (.var 3) (.bin .add (.bin .sub (.lit 64) (.fn 0 (.var 3) (.lit 0) (.lit 0))) (.lit (-2)))) (.lit 18446744073709551616)) (.lit 0)) (.lit 64))))) (.lit 0))), (.bin .eq (.un (.wrap .u64) (.bin .ediv (.bin .mul (.un (.wrap .u64) (.fn 14 (.lit 0) (.bin .add (.bin .mul (.bin (.shl .u64) (.var 3) (.bin .add (.bin .sub (.lit 64) (.fn 0 (.var 3) (.lit 0) (.lit 0))) (.lit (-2)))) (.lit 18446744073709551616)) (.lit 0)) (.lit 64))) (.un (.wrap .u64) (.fn 14 (.lit 0) (.bin .add (.bin .mul (.bin (.shl .u64) (.var 3) (.bin .add (.bin .sub (.lit 64) (.fn 0 (.var 3) (.lit 0) (.lit 0))) (.lit (-2)))) (.lit 18446744073709551616)) (.lit 0)) (.lit 64)))) (.lit 18446744073709551616))) (.bin (.shl .u64) (.var 3) (.bin .add (.bin .sub (.lit 64) (.fn 0 (.var 3) (.lit 0) (.lit 0))) (.lit (-2))))), (.un .bnot (.bin .eq (.bin .emod (.bin .sub (.var 4) (.bin .add (.bin .sub (.lit 64) (.fn 0 (.var 3) (.lit 0) (.lit 0))) (.lit 62))) (.lit 2)) (.lit 1))), (.un .bnot (.bin .eq (.var 3) (.lit 0))), (.un .bnot (.var 1)), (.un .bnot (.var 0)), (.un .bnot (.var 2)), (.bin .le (.lit 0) (.var 3)), (.bin .le (.var 3) (.lit 9007199254740991)), (.bin .le (.lit (-1074)) (.var 4)), (.bin .le (.var 4) (.lit 971))], (.int .u64 (.bin .add (.ite (.un .bnot (.un .bnot (.lit 0))) (.lit 9223372036854775808) (.lit 0)) (.fn 4 (.bin .add (.bin .mul (.bin .ediv (.un (.wrap .u64) (.fn 14 (.lit 0) (.bin .add (.bin .mul (.bin (.shl .u64) (.var 3) (.bin .add (.bin .sub (.lit 64) (.fn 0 (.var 3) (.lit 0) (.lit 0))) (.lit (-2)))) (.lit 18446744073709551616)) (.lit 0)) (.lit 64))) (.lit 9223372036854775808)) (.lit 18446744073709551616)) (.bin (.bits .or .u64) (.un (.wrap .u64) (.bin .mul (.un (.wrap .u64) (.fn 14 (.lit 0) (.bin .add (.bin .mul (.bin (.shl .u64) (.var 3) (.bin .add (.bin .sub (.lit 64) (.fn 0 (.var 3) (.lit 0) (.lit 0))) (.lit (-2)))) (.lit 18446744073709551616)) (.lit 0)) (.lit 64))) (.lit 2))) (.lit 1))) (.bin .add (.bin .tdiv (.bin .sub (.var 4) (.bin .add (.bin .sub (.lit 64) (.fn 0 (.var 3) (.lit 0) (.lit 0))) (.lit 62))) (.lit 2)) (.lit (-1))) (.lit 0))))),
  ([(.bin .eq (.un (.wrap .u64) (.bin .mul (.un (.wrap .u64) (.fn 14 (.lit 0) (.bin .add (.bin .mul (.bin (.shl .u64) (.var 3) (.bin .add (.bin .sub (.lit 64) (.fn 0 (.var 3) (.lit 0) (.lit 0))) (.lit (-2)))) (.lit 18446744073709551616)) (.lit 0)) (.lit 64))) (.un (.wrap .u64) (.fn 14 (.lit 0) (.bin .add (.bin .mul (.bin (.shl .u64) (.var 3) (.bin .add (.bin .sub (.lit 64) (.fn 0 (.var 3) (.lit 0) (.lit 0))) (.lit (-2)))) (.lit 18446744073709551616)) (.lit 0)) (.lit 64))))) (.lit 0)), (.bin .eq (.un (.wrap .u64) (.bin .ediv (.bin .mul (.un (.wrap .u64) (.fn 14 (.lit 0) (.bin .add (.bin .mul (.bin (.shl .u64) (.var 3) (.bin .add (.bin .sub (.lit 64) (.fn 0 (.var 3) (.lit 0) (.lit 0))) (.lit (-2)))) (.lit 18446744073709551616)) (.lit 0)) (.lit 64))) (.un (.wrap .u64) (.fn 14 (.lit 0) (.bin .add (.bin .mul (.bin (.shl .u64) (.var 3) (.bin .add (.bin .sub (.lit 64) (.fn 0 (.var 3) (.lit 0) (.lit 0))) (.lit (-2)))) (.lit 18446744073709551616)) (.lit 0)) (.lit 64)))) (.lit 18446744073709551616))) (.bin (.shl .u64) (.var 3) (.bin .add (.bin .sub (.lit 64) (.fn 0 (.var 3) (.lit 0) (.lit 0))) (.lit (-2))))), (.un .bnot (.bin .eq (.bin .emod (.bin .sub (.var 4) (.bin .add (.bin .sub (.lit 64) (.fn 0 (.var 3) (.lit 0) (.lit 0))) (.lit 62))) (.lit 2)) (.lit 1))), (.un .bnot (.bin .eq (.var 3) (.lit 0))), (.un .bnot (.var 1)), (.un .bnot (.var 0)), (.un .bnot (.var 2)), (.bin .le (.lit 0) (.var 3)), (.bin .le (.var 3) (.lit 9007199254740991)), (.bin .le (.lit (-1074)) (.var 4)), (.bin .le (.var 4) (.lit 971))], (.int .u64 (.bin .add (.ite (.un .bnot (.un .bnot (.lit 0))) (.lit 9223372036854775808) (.lit 0)) (.fn 4 (.bin .add (.bin .mul (.bin .ediv (.un (.wrap .u64) (.fn 14 (.lit 0) (.bin .add (.bin .mul (.bin (.shl .u64) (.var 3) (.bin .add (.bin .sub (.lit 64) (.fn 0 (.var 3) (.lit 0) (.lit 0))) (.lit (-2)))) (.lit 18446744073709551616)) (.lit 0)) (.lit 64))) (.lit 9223372036854775808)) (.lit 18446744073709551616)) (.un (.wrap .u64) (.bin .mul (.un (.wrap .u64) (.fn 14 (.lit 0) (.bin .add (.bin .mul (.bin (.shl .u64) (.var 3) (.bin .add (.bin .sub (.lit 64) (.fn 0 (.var 3) (.lit 0) (.lit 0))) (.lit (-2)))) (.lit 18446744073709551616)) (.lit 0)) (.lit 64))) (.lit 2)))) (.bin .add (.bin .tdiv (.bin .sub (.var 4) (.bin .add (.bin .sub (.lit 64) (.fn 0 (.var 3) (.lit 0) (.lit 0))) (.lit 62))) (.lit 2)) (.lit (-1))) (.lit 0)))))]
set_option maxRecDepth 100000 in
theorem rootDRan : runOfG Try.prog (orcs (gOracle (gsD0 ++ [rndD])) (specOracle [lenT, mulS])) (loopOracle [rootLo]) (bodies fns) [] 4000 rootD = some rootDR := by kernel_rfl
def wholeDR : List Leaf := [
  ([(.bin .lt (.lit 9218868437227405312) (.bin .emod (.var 1) (.lit 9223372036854775808))), (.bin .eq (.var 3) (plcE (.var 1))), (.bin .eq (.var 2) (magE (.var 1))), (.bin .le (.lit 0) (.var 0)), (.bin .le (.var 0) (.lit 3))], (.int .u64 (.lit 9221120237041090560))),
  ([(.bin .eq (.bin .emod (.var 1) (.lit 9223372036854775808)) (.lit 9218868437227405312)), (.bin .le (.bin .emod (.var 1) (.lit 9223372036854775808)) (.lit 9218868437227405312)), (.bin .eq (.var 3) (plcE (.var 1))), (.bin .eq (.var 2) (magE (.var 1))), (.bin .le (.lit 0) (.var 0)), (.bin .le (.var 0) (.lit 3))], (.int .u64 (.var 1))),
  ([(.bin .eq (.var 2) (.lit 0)), (.un .bnot (.bin .eq (.bin .emod (.var 1) (.lit 9223372036854775808)) (.lit 9218868437227405312))), (.bin .le (.bin .emod (.var 1) (.lit 9223372036854775808)) (.lit 9218868437227405312)), (.bin .eq (.var 3) (plcE (.var 1))), (.bin .eq (.var 2) (magE (.var 1))), (.bin .le (.lit 0) (.var 0)), (.bin .le (.var 0) (.lit 3))], (.int .u64 (.var 1))),
  ([(.bin .le (.lit 0) (.var 3)), (.un .bnot (.bin .eq (.var 2) (.lit 0))), (.un .bnot (.bin .eq (.bin .emod (.var 1) (.lit 9223372036854775808)) (.lit 9218868437227405312))), (.bin .le (.bin .emod (.var 1) (.lit 9223372036854775808)) (.lit 9218868437227405312)), (.bin .eq (.var 3) (plcE (.var 1))), (.bin .eq (.var 2) (magE (.var 1))), (.bin .le (.lit 0) (.var 0)), (.bin .le (.var 0) (.lit 3))], (.int .u64 (.var 1))),
  ([(.un .bnot (.bin .eq (.var 6) (.lit 2))), (.bin .lt (.var 1) (.lit 9223372036854775808)), (.bin .eq (.var 0) (.lit 0)), (.bin .eq (.var 6) (.fn 3 (.bin .add (.lit 0) (.var 2)) (.bin .sub (.lit 0) (.var 3)) (.lit 0))), (.bin .eq (.var 5) (.un (.wrap .u64) (.fn 2 (.bin .add (.lit 0) (.var 2)) (.bin .sub (.lit 0) (.var 3)) (.lit 0)))), (.bin .eq (.var 4) (.un (.wrap .u64) (.bin .ediv (.fn 2 (.bin .add (.lit 0) (.var 2)) (.bin .sub (.lit 0) (.var 3)) (.lit 0)) (.lit 18446744073709551616)))), (.bin .lt (.var 3) (.lit 0)), (.un .bnot (.bin .eq (.var 2) (.lit 0))), (.un .bnot (.bin .eq (.bin .emod (.var 1) (.lit 9223372036854775808)) (.lit 9218868437227405312))), (.bin .le (.bin .emod (.var 1) (.lit 9223372036854775808)) (.lit 9218868437227405312)), (.bin .eq (.var 3) (plcE (.var 1))), (.bin .eq (.var 2) (magE (.var 1))), (.bin .le (.lit 0) (.var 0)), (.bin .le (.var 0) (.lit 3))], (.int .u64 (.bin .add (.ite (.bin .le (.lit 9223372036854775808) (.var 1)) (.lit 9223372036854775808) (.lit 0)) (.fn 4 (.bin .add (.lit 0) (.un (.wrap .u64) (.bin .add (.var 5) (.lit 1)))) (.lit 0) (.lit 0))))),
  ([(.bin .eq (.var 6) (.lit 2)), (.bin .lt (.var 1) (.lit 9223372036854775808)), (.bin .eq (.var 0) (.lit 0)), (.bin .eq (.var 6) (.fn 3 (.bin .add (.lit 0) (.var 2)) (.bin .sub (.lit 0) (.var 3)) (.lit 0))), (.bin .eq (.var 5) (.un (.wrap .u64) (.fn 2 (.bin .add (.lit 0) (.var 2)) (.bin .sub (.lit 0) (.var 3)) (.lit 0)))), (.bin .eq (.var 4) (.un (.wrap .u64) (.bin .ediv (.fn 2 (.bin .add (.lit 0) (.var 2)) (.bin .sub (.lit 0) (.var 3)) (.lit 0)) (.lit 18446744073709551616)))), (.bin .lt (.var 3) (.lit 0)), (.un .bnot (.bin .eq (.var 2) (.lit 0))), (.un .bnot (.bin .eq (.bin .emod (.var 1) (.lit 9223372036854775808)) (.lit 9218868437227405312))), (.bin .le (.bin .emod (.var 1) (.lit 9223372036854775808)) (.lit 9218868437227405312)), (.bin .eq (.var 3) (plcE (.var 1))), (.bin .eq (.var 2) (magE (.var 1))), (.bin .le (.lit 0) (.var 0)), (.bin .le (.var 0) (.lit 3))], (.int .u64 (.bin .add (.ite (.bin .le (.lit 9223372036854775808) (.var 1)) (.lit 9223372036854775808) (.lit 0)) (.fn 4 (.bin .add (.lit 0) (.var 5)) (.lit 0) (.lit 0))))),
  ([(.bin .le (.lit 9223372036854775808) (.var 1)), (.bin .eq (.var 0) (.lit 0)), (.bin .eq (.var 6) (.fn 3 (.bin .add (.lit 0) (.var 2)) (.bin .sub (.lit 0) (.var 3)) (.lit 0))), (.bin .eq (.var 5) (.un (.wrap .u64) (.fn 2 (.bin .add (.lit 0) (.var 2)) (.bin .sub (.lit 0) (.var 3)) (.lit 0)))), (.bin .eq (.var 4) (.un (.wrap .u64) (.bin .ediv (.fn 2 (.bin .add (.lit 0) (.var 2)) (.bin .sub (.lit 0) (.var 3)) (.lit 0)) (.lit 18446744073709551616)))), (.bin .lt (.var 3) (.lit 0)), (.un .bnot (.bin .eq (.var 2) (.lit 0))), (.un .bnot (.bin .eq (.bin .emod (.var 1) (.lit 9223372036854775808)) (.lit 9218868437227405312))), (.bin .le (.bin .emod (.var 1) (.lit 9223372036854775808)) (.lit 9218868437227405312)), (.bin .eq (.var 3) (plcE (.var 1))), (.bin .eq (.var 2) (magE (.var 1))), (.bin .le (.lit 0) (.var 0)), (.bin .le (.var 0) (.lit 3))], (.int .u64 (.bin .add (.ite (.bin .le (.lit 9223372036854775808) (.var 1)) (.lit 9223372036854775808) (.lit 0)) (.fn 4 (.bin .add (.lit 0) (.var 5)) (.lit 0) (.lit 0))))),
  ([(.un .bnot (.bin .eq (.var 6) (.lit 2))), (.bin .le (.lit 9223372036854775808) (.var 1)), (.bin .eq (.var 0) (.lit 1)), (.un .bnot (.bin .eq (.var 0) (.lit 0))), (.bin .eq (.var 6) (.fn 3 (.bin .add (.lit 0) (.var 2)) (.bin .sub (.lit 0) (.var 3)) (.lit 0))), (.bin .eq (.var 5) (.un (.wrap .u64) (.fn 2 (.bin .add (.lit 0) (.var 2)) (.bin .sub (.lit 0) (.var 3)) (.lit 0)))), (.bin .eq (.var 4) (.un (.wrap .u64) (.bin .ediv (.fn 2 (.bin .add (.lit 0) (.var 2)) (.bin .sub (.lit 0) (.var 3)) (.lit 0)) (.lit 18446744073709551616)))), (.bin .lt (.var 3) (.lit 0)), (.un .bnot (.bin .eq (.var 2) (.lit 0))), (.un .bnot (.bin .eq (.bin .emod (.var 1) (.lit 9223372036854775808)) (.lit 9218868437227405312))), (.bin .le (.bin .emod (.var 1) (.lit 9223372036854775808)) (.lit 9218868437227405312)), (.bin .eq (.var 3) (plcE (.var 1))), (.bin .eq (.var 2) (magE (.var 1))), (.bin .le (.lit 0) (.var 0)), (.bin .le (.var 0) (.lit 3))], (.int .u64 (.bin .add (.ite (.bin .le (.lit 9223372036854775808) (.var 1)) (.lit 9223372036854775808) (.lit 0)) (.fn 4 (.bin .add (.lit 0) (.un (.wrap .u64) (.bin .add (.var 5) (.lit 1)))) (.lit 0) (.lit 0))))),
  ([(.bin .eq (.var 6) (.lit 2)), (.bin .le (.lit 9223372036854775808) (.var 1)), (.bin .eq (.var 0) (.lit 1)), (.un .bnot (.bin .eq (.var 0) (.lit 0))), (.bin .eq (.var 6) (.fn 3 (.bin .add (.lit 0) (.var 2)) (.bin .sub (.lit 0) (.var 3)) (.lit 0))), (.bin .eq (.var 5) (.un (.wrap .u64) (.fn 2 (.bin .add (.lit 0) (.var 2)) (.bin .sub (.lit 0) (.var 3)) (.lit 0)))), (.bin .eq (.var 4) (.un (.wrap .u64) (.bin .ediv (.fn 2 (.bin .add (.lit 0) (.var 2)) (.bin .sub (.lit 0) (.var 3)) (.lit 0)) (.lit 18446744073709551616)))), (.bin .lt (.var 3) (.lit 0)), (.un .bnot (.bin .eq (.var 2) (.lit 0))), (.un .bnot (.bin .eq (.bin .emod (.var 1) (.lit 9223372036854775808)) (.lit 9218868437227405312))), (.bin .le (.bin .emod (.var 1) (.lit 9223372036854775808)) (.lit 9218868437227405312)), (.bin .eq (.var 3) (plcE (.var 1))), (.bin .eq (.var 2) (magE (.var 1))), (.bin .le (.lit 0) (.var 0)), (.bin .le (.var 0) (.lit 3))], (.int .u64 (.bin .add (.ite (.bin .le (.lit 9223372036854775808) (.var 1)) (.lit 9223372036854775808) (.lit 0)) (.fn 4 (.bin .add (.lit 0) (.var 5)) (.lit 0) (.lit 0))))),
  ([(.bin .lt (.var 1) (.lit 9223372036854775808)), (.bin .eq (.var 0) (.lit 1)), (.un .bnot (.bin .eq (.var 0) (.lit 0))), (.bin .eq (.var 6) (.fn 3 (.bin .add (.lit 0) (.var 2)) (.bin .sub (.lit 0) (.var 3)) (.lit 0))), (.bin .eq (.var 5) (.un (.wrap .u64) (.fn 2 (.bin .add (.lit 0) (.var 2)) (.bin .sub (.lit 0) (.var 3)) (.lit 0)))), (.bin .eq (.var 4) (.un (.wrap .u64) (.bin .ediv (.fn 2 (.bin .add (.lit 0) (.var 2)) (.bin .sub (.lit 0) (.var 3)) (.lit 0)) (.lit 18446744073709551616)))), (.bin .lt (.var 3) (.lit 0)), (.un .bnot (.bin .eq (.var 2) (.lit 0))), (.un .bnot (.bin .eq (.bin .emod (.var 1) (.lit 9223372036854775808)) (.lit 9218868437227405312))), (.bin .le (.bin .emod (.var 1) (.lit 9223372036854775808)) (.lit 9218868437227405312)), (.bin .eq (.var 3) (plcE (.var 1))), (.bin .eq (.var 2) (magE (.var 1))), (.bin .le (.lit 0) (.var 0)), (.bin .le (.var 0) (.lit 3))], (.int .u64 (.bin .add (.ite (.bin .le (.lit 9223372036854775808) (.var 1)) (.lit 9223372036854775808) (.lit 0)) (.fn 4 (.bin .add (.lit 0) (.var 5)) (.lit 0) (.lit 0))))),
  ([(.bin .eq (.var 6) (.lit 1)), (.bin .eq (.var 0) (.lit 3)), (.un .bnot (.bin .eq (.var 0) (.lit 1))), (.un .bnot (.bin .eq (.var 0) (.lit 0))), (.bin .eq (.var 6) (.fn 3 (.bin .add (.lit 0) (.var 2)) (.bin .sub (.lit 0) (.var 3)) (.lit 0))), (.bin .eq (.var 5) (.un (.wrap .u64) (.fn 2 (.bin .add (.lit 0) (.var 2)) (.bin .sub (.lit 0) (.var 3)) (.lit 0)))), (.bin .eq (.var 4) (.un (.wrap .u64) (.bin .ediv (.fn 2 (.bin .add (.lit 0) (.var 2)) (.bin .sub (.lit 0) (.var 3)) (.lit 0)) (.lit 18446744073709551616)))), (.bin .lt (.var 3) (.lit 0)), (.un .bnot (.bin .eq (.var 2) (.lit 0))), (.un .bnot (.bin .eq (.bin .emod (.var 1) (.lit 9223372036854775808)) (.lit 9218868437227405312))), (.bin .le (.bin .emod (.var 1) (.lit 9223372036854775808)) (.lit 9218868437227405312)), (.bin .eq (.var 3) (plcE (.var 1))), (.bin .eq (.var 2) (magE (.var 1))), (.bin .le (.lit 0) (.var 0)), (.bin .le (.var 0) (.lit 3))], (.int .u64 (.bin .add (.ite (.bin .le (.lit 9223372036854775808) (.var 1)) (.lit 9223372036854775808) (.lit 0)) (.fn 4 (.bin .add (.lit 0) (.un (.wrap .u64) (.bin .add (.var 5) (.lit 1)))) (.lit 0) (.lit 0))))),
  ([(.bin .eq (.bin .emod (.var 5) (.lit 2)) (.lit 1)), (.bin .eq (.var 6) (.lit 0)), (.un .bnot (.bin .eq (.var 6) (.lit 1))), (.bin .eq (.var 0) (.lit 3)), (.un .bnot (.bin .eq (.var 0) (.lit 1))), (.un .bnot (.bin .eq (.var 0) (.lit 0))), (.bin .eq (.var 6) (.fn 3 (.bin .add (.lit 0) (.var 2)) (.bin .sub (.lit 0) (.var 3)) (.lit 0))), (.bin .eq (.var 5) (.un (.wrap .u64) (.fn 2 (.bin .add (.lit 0) (.var 2)) (.bin .sub (.lit 0) (.var 3)) (.lit 0)))), (.bin .eq (.var 4) (.un (.wrap .u64) (.bin .ediv (.fn 2 (.bin .add (.lit 0) (.var 2)) (.bin .sub (.lit 0) (.var 3)) (.lit 0)) (.lit 18446744073709551616)))), (.bin .lt (.var 3) (.lit 0)), (.un .bnot (.bin .eq (.var 2) (.lit 0))), (.un .bnot (.bin .eq (.bin .emod (.var 1) (.lit 9223372036854775808)) (.lit 9218868437227405312))), (.bin .le (.bin .emod (.var 1) (.lit 9223372036854775808)) (.lit 9218868437227405312)), (.bin .eq (.var 3) (plcE (.var 1))), (.bin .eq (.var 2) (magE (.var 1))), (.bin .le (.lit 0) (.var 0)), (.bin .le (.var 0) (.lit 3))], (.int .u64 (.bin .add (.ite (.bin .le (.lit 9223372036854775808) (.var 1)) (.lit 9223372036854775808) (.lit 0)) (.fn 4 (.bin .add (.lit 0) (.un (.wrap .u64) (.bin .add (.var 5) (.lit 1)))) (.lit 0) (.lit 0))))),
  ([(.un .bnot (.bin .eq (.bin .emod (.var 5) (.lit 2)) (.lit 1))), (.bin .eq (.var 6) (.lit 0)), (.un .bnot (.bin .eq (.var 6) (.lit 1))), (.bin .eq (.var 0) (.lit 3)), (.un .bnot (.bin .eq (.var 0) (.lit 1))), (.un .bnot (.bin .eq (.var 0) (.lit 0))), (.bin .eq (.var 6) (.fn 3 (.bin .add (.lit 0) (.var 2)) (.bin .sub (.lit 0) (.var 3)) (.lit 0))), (.bin .eq (.var 5) (.un (.wrap .u64) (.fn 2 (.bin .add (.lit 0) (.var 2)) (.bin .sub (.lit 0) (.var 3)) (.lit 0)))), (.bin .eq (.var 4) (.un (.wrap .u64) (.bin .ediv (.fn 2 (.bin .add (.lit 0) (.var 2)) (.bin .sub (.lit 0) (.var 3)) (.lit 0)) (.lit 18446744073709551616)))), (.bin .lt (.var 3) (.lit 0)), (.un .bnot (.bin .eq (.var 2) (.lit 0))), (.un .bnot (.bin .eq (.bin .emod (.var 1) (.lit 9223372036854775808)) (.lit 9218868437227405312))), (.bin .le (.bin .emod (.var 1) (.lit 9223372036854775808)) (.lit 9218868437227405312)), (.bin .eq (.var 3) (plcE (.var 1))), (.bin .eq (.var 2) (magE (.var 1))), (.bin .le (.lit 0) (.var 0)), (.bin .le (.var 0) (.lit 3))], (.int .u64 (.bin .add (.ite (.bin .le (.lit 9223372036854775808) (.var 1)) (.lit 9223372036854775808) (.lit 0)) (.fn 4 (.bin .add (.lit 0) (.var 5)) (.lit 0) (.lit 0))))),
  ([(.un .bnot (.bin .eq (.var 6) (.lit 0))), (.un .bnot (.bin .eq (.var 6) (.lit 1))), (.bin .eq (.var 0) (.lit 3)), (.un .bnot (.bin .eq (.var 0) (.lit 1))), (.un .bnot (.bin .eq (.var 0) (.lit 0))), (.bin .eq (.var 6) (.fn 3 (.bin .add (.lit 0) (.var 2)) (.bin .sub (.lit 0) (.var 3)) (.lit 0))), (.bin .eq (.var 5) (.un (.wrap .u64) (.fn 2 (.bin .add (.lit 0) (.var 2)) (.bin .sub (.lit 0) (.var 3)) (.lit 0)))), (.bin .eq (.var 4) (.un (.wrap .u64) (.bin .ediv (.fn 2 (.bin .add (.lit 0) (.var 2)) (.bin .sub (.lit 0) (.var 3)) (.lit 0)) (.lit 18446744073709551616)))), (.bin .lt (.var 3) (.lit 0)), (.un .bnot (.bin .eq (.var 2) (.lit 0))), (.un .bnot (.bin .eq (.bin .emod (.var 1) (.lit 9223372036854775808)) (.lit 9218868437227405312))), (.bin .le (.bin .emod (.var 1) (.lit 9223372036854775808)) (.lit 9218868437227405312)), (.bin .eq (.var 3) (plcE (.var 1))), (.bin .eq (.var 2) (magE (.var 1))), (.bin .le (.lit 0) (.var 0)), (.bin .le (.var 0) (.lit 3))], (.int .u64 (.bin .add (.ite (.bin .le (.lit 9223372036854775808) (.var 1)) (.lit 9223372036854775808) (.lit 0)) (.fn 4 (.bin .add (.lit 0) (.var 5)) (.lit 0) (.lit 0))))),
  ([(.un .bnot (.bin .eq (.var 0) (.lit 3))), (.un .bnot (.bin .eq (.var 0) (.lit 1))), (.un .bnot (.bin .eq (.var 0) (.lit 0))), (.bin .eq (.var 6) (.fn 3 (.bin .add (.lit 0) (.var 2)) (.bin .sub (.lit 0) (.var 3)) (.lit 0))), (.bin .eq (.var 5) (.un (.wrap .u64) (.fn 2 (.bin .add (.lit 0) (.var 2)) (.bin .sub (.lit 0) (.var 3)) (.lit 0)))), (.bin .eq (.var 4) (.un (.wrap .u64) (.bin .ediv (.fn 2 (.bin .add (.lit 0) (.var 2)) (.bin .sub (.lit 0) (.var 3)) (.lit 0)) (.lit 18446744073709551616)))), (.bin .lt (.var 3) (.lit 0)), (.un .bnot (.bin .eq (.var 2) (.lit 0))), (.un .bnot (.bin .eq (.bin .emod (.var 1) (.lit 9223372036854775808)) (.lit 9218868437227405312))), (.bin .le (.bin .emod (.var 1) (.lit 9223372036854775808)) (.lit 9218868437227405312)), (.bin .eq (.var 3) (plcE (.var 1))), (.bin .eq (.var 2) (magE (.var 1))), (.bin .le (.lit 0) (.var 0)), (.bin .le (.var 0) (.lit 3))], (.int .u64 (.bin .add (.ite (.bin .le (.lit 9223372036854775808) (.var 1)) (.lit 9223372036854775808) (.lit 0)) (.fn 4 (.bin .add (.lit 0) (.var 5)) (.lit 0) (.lit 0)))))]
set_option maxRecDepth 100000 in
theorem wholeDRan : runOfG Try.prog (orcs (nameO (gOracle [apartD])) (orcs (gOracle (gsD0 ++ [rndD])) (nameO (specOracle [downS])))) noLoops (bodies fns) [] 4000 wholeD = some wholeDR := by kernel_rfl
end Go.Proofs.Ytnodelimomljbaa.RunRefD

/- The ways of the reference's floats through numbers, and that the code takes no other. No condition. -/
namespace Go.Proofs.Ytnodelimomljbaa.RunRefB
open Go Go.Sx Go.Sx.Flt Go.Sx.Ref

def divLoR : List LL := [
  .cont [(.bin .eq (.bin .ediv (.var 0) (.lit 9223372036854775808)) (.lit 1)), (.bin .le (.lit 0) (.var 4)), (.bin .le (.lit (-1)) (.var 4)), (.bin .le (.var 4) (.lit 63))] [(.un (.wrap .u64) (.bin .sub (.bin (.bits .or .u64) (.un (.wrap .u64) (.bin .mul (.var 0) (.lit 2))) (.bin .emod (.bin (.shr .u64) (.var 1) (.var 4)) (.lit 2))) (.var 2))), (.var 1), (.var 2), (.bin (.bits .or .u64) (.var 3) (.bin (.shl .u64) (.lit 1) (.var 4))), (.bin .add (.var 4) (.lit (-1)))],
  .cont [(.bin .le (.var 2) (.bin (.bits .or .u64) (.un (.wrap .u64) (.bin .mul (.var 0) (.lit 2))) (.bin .emod (.bin (.shr .u64) (.var 1) (.var 4)) (.lit 2)))), (.un .bnot (.bin .eq (.bin .ediv (.var 0) (.lit 9223372036854775808)) (.lit 1))), (.bin .le (.lit 0) (.var 4)), (.bin .le (.lit (-1)) (.var 4)), (.bin .le (.var 4) (.lit 63))] [(.bin .sub (.bin (.bits .or .u64) (.un (.wrap .u64) (.bin .mul (.var 0) (.lit 2))) (.bin .emod (.bin (.shr .u64) (.var 1) (.var 4)) (.lit 2))) (.var 2)), (.var 1), (.var 2), (.bin (.bits .or .u64) (.var 3) (.bin (.shl .u64) (.lit 1) (.var 4))), (.bin .add (.var 4) (.lit (-1)))],
  .cont [(.bin .lt (.bin (.bits .or .u64) (.un (.wrap .u64) (.bin .mul (.var 0) (.lit 2))) (.bin .emod (.bin (.shr .u64) (.var 1) (.var 4)) (.lit 2))) (.var 2)), (.un .bnot (.bin .eq (.bin .ediv (.var 0) (.lit 9223372036854775808)) (.lit 1))), (.bin .le (.lit 0) (.var 4)), (.bin .le (.lit (-1)) (.var 4)), (.bin .le (.var 4) (.lit 63))] [(.bin (.bits .or .u64) (.un (.wrap .u64) (.bin .mul (.var 0) (.lit 2))) (.bin .emod (.bin (.shr .u64) (.var 1) (.var 4)) (.lit 2))), (.var 1), (.var 2), (.var 3), (.bin .add (.var 4) (.lit (-1)))],
  .out [(.bin .lt (.var 4) (.lit 0)), (.bin .le (.lit (-1)) (.var 4)), (.bin .le (.var 4) (.lit 63))] [(.int .u64 (.var 3)), (.int .u64 (.var 0)), (.int .i64 (.var 4))]]
set_option maxRecDepth 100000 in
theorem divLoRan : lrunOf Try.prog noOracle noLoops (bodies fns) [] 4000 divLo = some divLoR := by kernel_rfl
def divR : List Leaf := [
  ([], (.tup [(.int .u64 (.un (.wrap .u64) (.fn 12 (.lit 0) (.bin .add (.bin .mul (.var 0) (.lit 18446744073709551616)) (.var 1)) (.bin .add (.bin .mul (.var 2) (.lit 128)) (.lit 64))))), (.int .u64 (.un (.wrap .u64) (.fn 13 (.lit 0) (.bin .add (.bin .mul (.var 0) (.lit 18446744073709551616)) (.var 1)) (.bin .add (.bin .mul (.var 2) (.lit 128)) (.lit 64)))))]))]
set_option maxRecDepth 100000 in
theorem divRan : runOf Try.prog noOracle (loopOracle [divLo]) (bodies fns) [] 4000 divS.f divS.ks divS.pre = some divR := by kernel_rfl
def rootLoR : List LL := [
  .cont [(.bin .lt (.un (.wrap .u64) (.bin .ediv (.bin .mul (.bin (.bits .or .u64) (.var 2) (.bin (.shl .u64) (.lit 1) (.var 3))) (.bin (.bits .or .u64) (.var 2) (.bin (.shl .u64) (.lit 1) (.var 3)))) (.lit 18446744073709551616))) (.var 0)), (.bin .le (.lit 0) (.var 3)), (.bin .le (.lit (-1)) (.var 3)), (.bin .le (.var 3) (.lit 63))] [(.var 0), (.var 1), (.bin (.bits .or .u64) (.var 2) (.bin (.shl .u64) (.lit 1) (.var 3))), (.bin .add (.var 3) (.lit (-1)))],
  .cont [(.bin .le (.un (.wrap .u64) (.bin .mul (.bin (.bits .or .u64) (.var 2) (.bin (.shl .u64) (.lit 1) (.var 3))) (.bin (.bits .or .u64) (.var 2) (.bin (.shl .u64) (.lit 1) (.var 3))))) (.var 1)), (.bin .eq (.un (.wrap .u64) (.bin .ediv (.bin .mul (.bin (.bits .or .u64) (.var 2) (.bin (.shl .u64) (.lit 1) (.var 3))) (.bin (.bits .or .u64) (.var 2) (.bin (.shl .u64) (.lit 1) (.var 3)))) (.lit 18446744073709551616))) (.var 0)), (.bin .le (.var 0) (.un (.wrap .u64) (.bin .ediv (.bin .mul (.bin (.bits .or .u64) (.var 2) (.bin (.shl .u64) (.lit 1) (.var 3))) (.bin (.bits .or .u64) (.var 2) (.bin (.shl .u64) (.lit 1) (.var 3)))) (.lit 18446744073709551616)))), (.bin .le (.lit 0) (.var 3)), (.bin .le (.lit (-1)) (.var 3)), (.bin .le (.var 3) (.lit 63))] [(.var 0), (.var 1), (.bin (.bits .or .u64) (.var 2) (.bin (.shl .u64) (.lit 1) (.var 3))), (.bin .add (.var 3) (.lit (-1)))],
  .cont [(.bin .lt (.var 1) (.un (.wrap .u64) (.bin .mul (.bin (.bits .or .u64) (.var 2) (.bin (.shl .u64) (.lit 1) (.var 3))) (.bin (.bits .or .u64) (.var 2) (.bin (.shl .u64) (.lit 1) (.var 3)))))), (.bin .eq (.un (.wrap .u64) (.bin .ediv (.bin .mul (.bin (.bits .or .u64) (.var 2) (.bin (.shl .u64) (.lit 1) (.var 3))) (.bin (.bits .or .u64) (.var 2) (.bin (.shl .u64) (.lit 1) (.var 3)))) (.lit 18446744073709551616))) (.var 0)), (.bin .le (.var 0) (.un (.wrap .u64) (.bin .ediv (.bin .mul (.bin (.bits .or .u64) (.var 2) (.bin (.shl .u64) (.lit 1) (.var 3))) (.bin (.bits .or .u64) (.var 2) (.bin (.shl .u64) (.lit 1) (.var 3)))) (.lit 18446744073709551616)))), (.bin .le (.lit 0) (.var 3)), (.bin .le (.lit (-1)) (.var 3)), (.bin .le (.var 3) (.lit 63))] [(.var 0), (.var 1), (.var 2), (.bin .add (.var 3) (.lit (-1)))],
  .cont [(.un .bnot (.bin .eq (.un (.wrap .u64) (.bin .ediv (.bin .mul (.bin (.bits .or .u64) (.var 2) (.bin (.shl .u64) (.lit 1) (.var 3))) (.bin (.bits .or .u64) (.var 2) (.bin (.shl .u64) (.lit 1) (.var 3)))) (.lit 18446744073709551616))) (.var 0))), (.bin .le (.var 0) (.un (.wrap .u64) (.bin .ediv (.bin .mul (.bin (.bits .or .u64) (.var 2) (.bin (.shl .u64) (.lit 1) (.var 3))) (.bin (.bits .or .u64) (.var 2) (.bin (.shl .u64) (.lit 1) (.var 3)))) (.lit 18446744073709551616)))), (.bin .le (.lit 0) (.var 3)), (.bin .le (.lit (-1)) (.var 3)), (.bin .le (.var 3) (.lit 63))] [(.var 0), (.var 1), (.var 2), (.bin .add (.var 3) (.lit (-1)))],
  .out [(.bin .lt (.var 3) (.lit 0)), (.bin .le (.lit (-1)) (.var 3)), (.bin .le (.var 3) (.lit 63))] [(.int .u64 (.var 2)), (.int .i64 (.var 3))]]
set_option maxRecDepth 100000 in
theorem rootLoRan : lrunOf Try.prog (specOracle [mulS]) noLoops (bodies fns) [] 4000 rootLo = some rootLoR := by kernel_rfl
def apartDR : List Leaf := [
  ([(.bin .eq (.bin .emod (.bin .ediv (.var 0) (.lit 4503599627370496)) (.lit 2048)) (.lit 2047))], (.tup [(.bool (.bin .eq (.bin .emod (.bin .ediv (.var 0) (.lit 9223372036854775808)) (.lit 2)) (.lit 1))), (.bool (.bin .eq (.bin .emod (.var 0) (.lit 4503599627370496)) (.lit 0))), (.bool (.un .bnot (.bin .eq (.bin .emod (.var 0) (.lit 4503599627370496)) (.lit 0)))), (.int .u64 (.bin .emod (.var 0) (.lit 4503599627370496))), (.int .i64 (.lit 0))])),
  ([(.bin .eq (.bin .emod (.bin .ediv (.var 0) (.lit 4503599627370496)) (.lit 2048)) (.lit 0)), (.un .bnot (.bin .eq (.bin .emod (.bin .ediv (.var 0) (.lit 4503599627370496)) (.lit 2048)) (.lit 2047)))], (.tup [(.bool (.bin .eq (.bin .emod (.bin .ediv (.var 0) (.lit 9223372036854775808)) (.lit 2)) (.lit 1))), (.bool (.lit 0)), (.bool (.lit 0)), (.int .u64 (.bin .emod (.var 0) (.lit 4503599627370496))), (.int .i64 (.lit (-1074)))])),
  ([(.un .bnot (.bin .eq (.bin .emod (.bin .ediv (.var 0) (.lit 4503599627370496)) (.lit 2048)) (.lit 0))), (.un .bnot (.bin .eq (.bin .emod (.bin .ediv (.var 0) (.lit 4503599627370496)) (.lit 2048)) (.lit 2047)))], (.tup [(.bool (.bin .eq (.bin .emod (.bin .ediv (.var 0) (.lit 9223372036854775808)) (.lit 2)) (.lit 1))), (.bool (.lit 0)), (.bool (.lit 0)), (.int .u64 (.bin (.bits .or .u64) (.bin .emod (.var 0) (.lit 4503599627370496)) (.lit 4503599627370496))), (.int .i64 (.bin .add (.bin .emod (.bin .ediv (.var 0) (.lit 4503599627370496)) (.lit 2048)) (.lit (-1075))))]))]
set_option maxRecDepth 100000 in
theorem apartDRan : runOfG Try.prog (gOracle gsD0) noLoops (bodies fns) [] 4000 apartD = some apartDR := by kernel_rfl
def lessDR : List Leaf := [
  ([(.bin .eq (.bin .emod (.var 1) (.lit 9223372036854775808)) (.lit 0)), (.bin .eq (.bin .emod (.var 0) (.lit 9223372036854775808)) (.lit 0)), (.bin .eq (.var 5) (plcE (.var 1))), (.bin .eq (.var 4) (magE (.var 1))), (.bin .eq (.var 3) (plcE (.var 0))), (.bin .eq (.var 2) (magE (.var 0)))], (.bool (.lit 0))),
  ([(.un .bnot (.bin .eq (.bin .le (.lit 9223372036854775808) (.var 0)) (.bin .le (.lit 9223372036854775808) (.var 1)))), (.un .bnot (.bin .eq (.bin .emod (.var 1) (.lit 9223372036854775808)) (.lit 0))), (.bin .eq (.bin .emod (.var 0) (.lit 9223372036854775808)) (.lit 0)), (.bin .eq (.var 5) (plcE (.var 1))), (.bin .eq (.var 4) (magE (.var 1))), (.bin .eq (.var 3) (plcE (.var 0))), (.bin .eq (.var 2) (magE (.var 0)))], (.bool (.bin .le (.lit 9223372036854775808) (.var 0)))),
  ([(.bin .le (.lit 9223372036854775808) (.var 0)), (.bin .eq (.bin .le (.lit 9223372036854775808) (.var 0)) (.bin .le (.lit 9223372036854775808) (.var 1))), (.un .bnot (.bin .eq (.bin .emod (.var 1) (.lit 9223372036854775808)) (.lit 0))), (.bin .eq (.bin .emod (.var 0) (.lit 9223372036854775808)) (.lit 0)), (.bin .eq (.var 5) (plcE (.var 1))), (.bin .eq (.var 4) (magE (.var 1))), (.bin .eq (.var 3) (plcE (.var 0))), (.bin .eq (.var 2) (magE (.var 0)))], (.bool (.bin .lt (.bin .emod (.var 1) (.lit 9223372036854775808)) (.bin .emod (.var 0) (.lit 9223372036854775808))))),
  ([(.bin .lt (.var 0) (.lit 9223372036854775808)), (.bin .eq (.bin .le (.lit 9223372036854775808) (.var 0)) (.bin .le (.lit 9223372036854775808) (.var 1))), (.un .bnot (.bin .eq (.bin .emod (.var 1) (.lit 9223372036854775808)) (.lit 0))), (.bin .eq (.bin .emod (.var 0) (.lit 9223372036854775808)) (.lit 0)), (.bin .eq (.var 5) (plcE (.var 1))), (.bin .eq (.var 4) (magE (.var 1))), (.bin .eq (.var 3) (plcE (.var 0))), (.bin .eq (.var 2) (magE (.var 0)))], (.bool (.bin .lt (.bin .emod (.var 0) (.lit 9223372036854775808)) (.bin .emod (.var 1) (.lit 9223372036854775808))))),
  ([(.un .bnot (.bin .eq (.bin .le (.lit 9223372036854775808) (.var 0)) (.bin .le (.lit 9223372036854775808) (.var 1)))), (.un .bnot (.bin .eq (.bin .emod (.var 0) (.lit 9223372036854775808)) (.lit 0))), (.bin .eq (.var 5) (plcE (.var 1))), (.bin .eq (.var 4) (magE (.var 1))), (.bin .eq (.var 3) (plcE (.var 0))), (.bin .eq (.var 2) (magE (.var 0)))], (.bool (.bin .le (.lit 9223372036854775808) (.var 0)))),
  ([(.bin .le (.lit 9223372036854775808) (.var 0)), (.bin .eq (.bin .le (.lit 9223372036854775808) (.var 0)) (.bin .le (.lit 9223372036854775808) (.var 1))), (.un .bnot (.bin .eq (.bin .emod (.var 0) (.lit 9223372036854775808)) (.lit 0))), (.bin .eq (.var 5) (plcE (.var 1))), (.bin .eq (.var 4) (magE (.var 1))), (.bin .eq (.var 3) (plcE (.var 0))), (.bin .eq (.var 2) (magE (.var 0)))], (.bool (.bin .lt (.bin .emod (.var 1) (.lit 9223372036854775808)) (.bin .emod (.var 0) (.lit 9223372036854775808))))),
  ([(.bin .lt (.var 0) (.lit 9223372036854775808)), (.bin .eq (.bin .le (.lit 9223372036854775808) (.var 0)) (.bin .le (.lit 9223372036854775808) (.var 1))), (.un .bnot (.bin .eq (.bin .emod (.var 0) (.lit 9223372036854775808)) (.lit 0))), (.bin .eq (.var 5) (plcE (.var 1))), (.bin .eq (.var 4) (magE (.var 1))), (.bin .eq (.var 3) (plcE (.var 0))), (.bin .eq (.var 2) (magE (.var 0)))], (.bool (.bin .lt (.bin .emod (.var 0) (.lit 9223372036854775808)) (.bin .emod (.var 1) (.lit 9223372036854775808))))),
  ([(.bin .eq (.bin .emod (.var 1) (.lit 9223372036854775808)) (.lit 0)), (.bin .eq (.bin .emod (.var 0) (.lit 9223372036854775808)) (.lit 0)), (.bin .eq (.var 5) (plcE (.var 1))), (.bin .eq (.var 4) (magE (.var 1))), (.bin .eq (.var 3) (plcE (.var 0))), (.bin .eq (.var 2) (magE (.var 0)))], (.bool (.lit 0))),
  ([(.un .bnot (.bin .eq (.bin .le (.lit 9223372036854775808) (.var 0)) (.bin .le (.lit 9223372036854775808) (.var 1)))), (.un .bnot (.bin .eq (.bin .emod (.var 1) (.lit 9223372036854775808)) (.lit 0))), (.bin .eq (.bin .emod (.var 0) (.lit 9223372036854775808)) (.lit 0)), (.bin .eq (.var 5) (plcE (.var 1))), (.bin .eq (.var 4) (magE (.var 1))), (.bin .eq (.var 3) (plcE (.var 0))), (.bin .eq (.var 2) (magE (.var 0)))], (.bool (.bin .le (.lit 9223372036854775808) (.var 0)))),
  ([(.bin .le (.lit 9223372036854775808) (.var 0)), (.bin .eq (.bin .le (.lit 9223372036854775808) (.var 0)) (.bin .le (.lit 9223372036854775808) (.var 1))), (.un .bnot (.bin .eq (.bin .emod (.var 1) (.lit 9223372036854775808)) (.lit 0))), (.bin .eq (.bin .emod (.var 0) (.lit 9223372036854775808)) (.lit 0)), (.bin .eq (.var 5) (plcE (.var 1))), (.bin .eq (.var 4) (magE (.var 1))), (.bin .eq (.var 3) (plcE (.var 0))), (.bin .eq (.var 2) (magE (.var 0)))], (.bool (.bin .lt (.bin .emod (.var 1) (.lit 9223372036854775808)) (.bin .emod (.var 0) (.lit 9223372036854775808))))),
  ([(.bin .lt (.var 0) (.lit 9223372036854775808)), (.bin .eq (.bin .le (.lit 9223372036854775808) (.var 0)) (.bin .le (.lit 9223372036854775808) (.var 1))), (.un .bnot (.bin .eq (.bin .emod (.var 1) (.lit 9223372036854775808)) (.lit 0))), (.bin .eq (.bin .emod (.var 0) (.lit 9223372036854775808)) (.lit 0)), (.bin .eq (.var 5) (plcE (.var 1))), (.bin .eq (.var 4) (magE (.var 1))), (.bin .eq (.var 3) (plcE (.var 0))), (.bin .eq (.var 2) (magE (.var 0)))], (.bool (.bin .lt (.bin .emod (.var 0) (.lit 9223372036854775808)) (.bin .emod (.var 1) (.lit 9223372036854775808))))),
  ([(.un .bnot (.bin .eq (.bin .le (.lit 9223372036854775808) (.var 0)) (.bin .le (.lit 9223372036854775808) (.var 1)))), (.un .bnot (.bin .eq (.bin .emod (.var 0) (.lit 9223372036854775808)) (.lit 0))), (.bin .eq (.var 5) (plcE (.var 1))), (.bin .eq (.var 4) (magE (.var 1))), (.bin .eq (.var 3) (plcE (.var 0))), (.bin .eq (.var 2) (magE (.var 0)))], (.bool (.bin .le (.lit 9223372036854775808) (.var 0)))),
  ([(.bin .le (.lit 9223372036854775808) (.var 0)), (.bin .eq (.bin .le (.lit 9223372036854775808) (.var 0)) (.bin .le (.lit 9223372036854775808) (.var 1))), (.un .bnot (.bin .eq (.bin .emod (.var 0) (.lit 9223372036854775808)) (.lit 0))), (.bin .eq (.var 5) (plcE (.var 1))), (.bin .eq (.var 4) (magE (.var 1))), (.bin .eq (.var 3) (plcE (.var 0))), (.bin .eq (.var 2) (magE (.var 0)))], (.bool (.bin .lt (.bin .emod (.var 1) (.lit 9223372036854775808)) (.bin .emod (.var 0) (.lit 9223372036854775808))))),
  ([(.bin .lt (.var 0) (.lit 9223372036854775808)), (.bin .eq (.bin .le (.lit 9223372036854775808) (.var 0)) (.bin .le (.lit 9223372036854775808) (.var 1))), (.un .bnot (.bin .eq (.bin .emod (.var 0) (.lit 9223372036854775808)) (.lit 0))), (.bin .eq (.var 5) (plcE (.var 1))), (.bin .eq (.var 4) (magE (.var 1))), (.bin .eq (.var 3) (plcE (.var 0))), (.bin .eq (.var 2) (magE (.var 0)))], (.bool (.bin .lt (.bin .emod (.var 0) (.lit 9223372036854775808)) (.bin .emod (.var 1) (.lit 9223372036854775808)))))]
set_option maxRecDepth 100000 in
theorem lessDRan : runOfG Try.prog (nameO (gOracle [apartD])) noLoops (bodies fns) [] 4000 lessD = some lessDR := by kernel_rfl
def sumDR : List Leaf := [
  ([(.var 2), (.bin .le (.lit 0) (.var 3)), (.bin .le (.var 3) (.lit 9007199254740991)), (.bin .le (.lit (-1074)) (.var 4)), (.bin .le (.var 4) (.lit 971)), (.bin .le (.lit 0) (.var 8)), (.bin .le (.var 8) (.lit 9007199254740991)), (.bin .le (.lit (-1074)) (.var 9)), (.bin .le (.var 9) (.lit 971))], (.int .u64 (.lit 9221120237041090560))),
  ([(.var 7), (.un .bnot (.var 2)), (.bin .le (.lit 0) (.var 3)), (.bin .le (.var 3) (.lit 9007199254740991)), (.bin .le (.lit (-1074)) (.var 4)), (.bin .le (.var 4) (.lit 971)), (.bin .le (.lit 0) (.var 8)), (.bin .le (.var 8) (.lit 9007199254740991)), (.bin .le (.lit (-1074)) (.var 9)), (.bin .le (.var 9) (.lit 971))], (.int .u64 (.lit 9221120237041090560))),
  ([(.un .bnot (.bin .eq (.un .bnot (.un .bnot (.var 0))) (.un .bnot (.un .bnot (.var 5))))), (.var 6), (.var 1), (.un .bnot (.var 7)), (.un .bnot (.var 2)), (.bin .le (.lit 0) (.var 3)), (.bin .le (.var 3) (.lit 9007199254740991)), (.bin .le (.lit (-1074)) (.var 4)), (.bin .le (.var 4) (.lit 971)), (.bin .le (.lit 0) (.var 8)), (.bin .le (.var 8) (.lit 9007199254740991)), (.bin .le (.lit (-1074)) (.var 9)), (.bin .le (.var 9) (.lit 971))], (.int .u64 (.lit 9221120237041090560))),
  ([(.bin .eq (.un .bnot (.un .bnot (.var 0))) (.un .bnot (.un .bnot (.var 5)))), (.var 6), (.var 1), (.un .bnot (.var 7)), (.un .bnot (.var 2)), (.bin .le (.lit 0) (.var 3)), (.bin .le (.var 3) (.lit 9007199254740991)), (.bin .le (.lit (-1074)) (.var 4)), (.bin .le (.var 4) (.lit 971)), (.bin .le (.lit 0) (.var 8)), (.bin .le (.var 8) (.lit 9007199254740991)), (.bin .le (.lit (-1074)) (.var 9)), (.bin .le (.var 9) (.lit 971))], (.int .u64 (.ite (.un .bnot (.un .bnot (.var 0))) (.lit 18442240474082181120) (.lit 9218868437227405312)))),
  ([(.un .bnot (.var 6)), (.var 1), (.un .bnot (.var 7)), (.un .bnot (.var 2)), (.bin .le (.lit 0) (.var 3)), (.bin .le (.var 3) (.lit 9007199254740991)), (.bin .le (.lit (-1074)) (.var 4)), (.bin .le (.var 4) (.lit 971)), (.bin .le (.lit 0) (.var 8)), (.bin .le (.var 8) (.lit 9007199254740991)), (.bin .le (.lit (-1074)) (.var 9)), (.bin .le (.var 9) (.lit 971))], (.int .u64 (.ite (.un .bnot (.un .bnot (.var 0))) (.lit 18442240474082181120) (.lit 9218868437227405312)))),
  ([(.var 6), (.un .bnot (.var 1)), (.un .bnot (.var 7)), (.un .bnot (.var 2)), (.bin .le (.lit 0) (.var 3)), (.bin .le (.var 3) (.lit 9007199254740991)), (.bin .le (.lit (-1074)) (.var 4)), (.bin .le (.var 4) (.lit 971)), (.bin .le (.lit 0) (.var 8)), (.bin .le (.var 8) (.lit 9007199254740991)), (.bin .le (.lit (-1074)) (.var 9)), (.bin .le (.var 9) (.lit 971))], (.int .u64 (.ite (.un .bnot (.un .bnot (.var 5))) (.lit 18442240474082181120) (.lit 9218868437227405312)))),
  ([(.un .bnot (.var 6)), (.un .bnot (.var 1)), (.un .bnot (.var 7)), (.un .bnot (.var 2)), (.bin .le (.lit 0) (.var 3)), (.bin .le (.var 3) (.lit 9007199254740991)), (.bin .le (.lit (-1074)) (.var 4)), (.bin .le (.var 4) (.lit 971)), (.bin .le (.lit 0) (.var 8)), (.bin .le (.var 8) (.lit 9007199254740991)), (.bin .le (.lit (-1074)) (.var 9)), (.bin .le (.var 9) (.lit 971))], (.int .u64 (.fn 6 (.bin .add (.bin .mul (.var 3) (.lit 4096)) (.bin .add (.var 4) (.lit 2048))) (.bin .add (.bin .mul (.var 8) (.lit 4096)) (.bin .add (.var 9) (.lit 2048))) (.bin .add (.bin .mul (.un .bnot (.un .bnot (.var 0))) (.lit 2)) (.un .bnot (.un .bnot (.var 5)))))))]
set_option maxRecDepth 100000 in
theorem sumDRan : runOfG Try.prog (gOracle (gsD0 ++ [addD])) noLoops (bodies fns) [] 4000 sumD = some sumDR := by kernel_rfl
def mulDR : List Leaf := [
  ([(.var 2), (.bin .le (.lit 0) (.var 3)), (.bin .le (.var 3) (.lit 9007199254740991)), (.bin .le (.lit (-1074)) (.var 4)), (.bin .le (.var 4) (.lit 971)), (.bin .le (.lit 0) (.var 8)), (.bin .le (.var 8) (.lit 9007199254740991)), (.bin .le (.lit (-1074)) (.var 9)), (.bin .le (.var 9) (.lit 971))], (.int .u64 (.lit 9221120237041090560))),
  ([(.var 7), (.un .bnot (.var 2)), (.bin .le (.lit 0) (.var 3)), (.bin .le (.var 3) (.lit 9007199254740991)), (.bin .le (.lit (-1074)) (.var 4)), (.bin .le (.var 4) (.lit 971)), (.bin .le (.lit 0) (.var 8)), (.bin .le (.var 8) (.lit 9007199254740991)), (.bin .le (.lit (-1074)) (.var 9)), (.bin .le (.var 9) (.lit 971))], (.int .u64 (.lit 9221120237041090560))),
  ([(.bin .eq (.var 8) (.lit 0)), (.un .bnot (.var 6)), (.var 1), (.un .bnot (.var 7)), (.un .bnot (.var 2)), (.bin .le (.lit 0) (.var 3)), (.bin .le (.var 3) (.lit 9007199254740991)), (.bin .le (.lit (-1074)) (.var 4)), (.bin .le (.var 4) (.lit 971)), (.bin .le (.lit 0) (.var 8)), (.bin .le (.var 8) (.lit 9007199254740991)), (.bin .le (.lit (-1074)) (.var 9)), (.bin .le (.var 9) (.lit 971))], (.int .u64 (.lit 9221120237041090560))),
  ([(.un .bnot (.bin .eq (.var 8) (.lit 0))), (.un .bnot (.var 6)), (.var 1), (.un .bnot (.var 7)), (.un .bnot (.var 2)), (.bin .le (.lit 0) (.var 3)), (.bin .le (.var 3) (.lit 9007199254740991)), (.bin .le (.lit (-1074)) (.var 4)), (.bin .le (.var 4) (.lit 971)), (.bin .le (.lit 0) (.var 8)), (.bin .le (.var 8) (.lit 9007199254740991)), (.bin .le (.lit (-1074)) (.var 9)), (.bin .le (.var 9) (.lit 971))], (.int .u64 (.ite (.un .bnot (.bin .eq (.un .bnot (.un .bnot (.var 0))) (.un .bnot (.un .bnot (.var 5))))) (.lit 18442240474082181120) (.lit 9218868437227405312)))),
  ([(.var 6), (.un .bnot (.un .bnot (.var 6))), (.var 1), (.un .bnot (.var 7)), (.un .bnot (.var 2)), (.bin .le (.lit 0) (.var 3)), (.bin .le (.var 3) (.lit 9007199254740991)), (.bin .le (.lit (-1074)) (.var 4)), (.bin .le (.var 4) (.lit 971)), (.bin .le (.lit 0) (.var 8)), (.bin .le (.var 8) (.lit 9007199254740991)), (.bin .le (.lit (-1074)) (.var 9)), (.bin .le (.var 9) (.lit 971))], (.int .u64 (.ite (.un .bnot (.bin .eq (.un .bnot (.un .bnot (.var 0))) (.un .bnot (.un .bnot (.var 5))))) (.lit 18442240474082181120) (.lit 9218868437227405312)))),
  ([(.un .bnot (.var 6)), (.un .bnot (.un .bnot (.var 6))), (.var 1), (.un .bnot (.var 7)), (.un .bnot (.var 2)), (.bin .le (.lit 0) (.var 3)), (.bin .le (.var 3) (.lit 9007199254740991)), (.bin .le (.lit (-1074)) (.var 4)), (.bin .le (.var 4) (.lit 971)), (.bin .le (.lit 0) (.var 8)), (.bin .le (.var 8) (.lit 9007199254740991)), (.bin .le (.lit (-1074)) (.var 9)), (.bin .le (.var 9) (.lit 971))], (.int .u64 (.ite (.un .bnot (.bin .eq (.un .bnot (.un .bnot (.var 0))) (.un .bnot (.un .bnot (.var 5))))) (.lit 18442240474082181120) (.lit 9218868437227405312)))),
  ([(.bin .eq (.var 3) (.lit 0)), (.var 6), (.un .bnot (.var 1)), (.un .bnot (.var 7)), (.un .bnot (.var 2)), (.bin .le (.lit 0) (.var 3)), (.bin .le (.var 3) (.lit 9007199254740991)), (.bin .le (.lit (-1074)) (.var 4)), (.bin .le (.var 4) (.lit 971)), (.bin .le (.lit 0) (.var 8)), (.bin .le (.var 8) (.lit 9007199254740991)), (.bin .le (.lit (-1074)) (.var 9)), (.bin .le (.var 9) (.lit 971))], (.int .u64 (.lit 9221120237041090560))),
  ([(.un .bnot (.bin .eq (.var 3) (.lit 0))), (.var 6), (.un .bnot (.var 1)), (.un .bnot (.var 7)), (.un .bnot (.var 2)), (.bin .le (.lit 0) (.var 3)), (.bin .le (.var 3) (.lit 9007199254740991)), (.bin .le (.lit (-1074)) (.var 4)), (.bin .le (.var 4) (.lit 971)), (.bin .le (.lit 0) (.var 8)), (.bin .le (.var 8) (.lit 9007199254740991)), (.bin .le (.lit (-1074)) (.var 9)), (.bin .le (.var 9) (.lit 971))], (.int .u64 (.ite (.un .bnot (.bin .eq (.un .bnot (.un .bnot (.var 0))) (.un .bnot (.un .bnot (.var 5))))) (.lit 18442240474082181120) (.lit 9218868437227405312)))),
  ([(.un .bnot (.var 6)), (.un .bnot (.var 1)), (.un .bnot (.var 7)), (.un .bnot (.var 2)), (.bin .le (.lit 0) (.var 3)), (.bin .le (.var 3) (.lit 9007199254740991)), (.bin .le (.lit (-1074)) (.var 4)), (.bin .le (.var 4) (.lit 971)), (.bin .le (.lit 0) (.var 8)), (.bin .le (.var 8) (.lit 9007199254740991)), (.bin .le (.lit (-1074)) (.var 9)), (.bin .le (.var 9) (.lit 971))], (.int .u64 (.bin .add (.ite (.un .bnot (.bin .eq (.un .bnot (.un .bnot (.var 0))) (.un .bnot (.un .bnot (.var 5))))) (.lit 9223372036854775808) (.lit 0)) (.fn 4 (.bin .add (.bin .mul (.un (.wrap .u64) (.bin .ediv (.bin .mul (.var 3) (.var 8)) (.lit 18446744073709551616))) (.lit 18446744073709551616)) (.un (.wrap .u64) (.bin .mul (.var 3) (.var 8)))) (.bin .add (.var 4) (.var 9)) (.lit 0)))))]
set_option maxRecDepth 100000 in
theorem mulDRan : runOfG Try.prog (orcs (gOracle (gsD0 ++ [rndD])) (specOracle [mulS])) noLoops (bodies fns) [] 4000 mulD = some mulDR := by kernel_rfl
end Go.Proofs.Ytnodelimomljbaa.RunRefB

/- The ways of the reference's floats through numbers, and that the code takes no other. No condition. -/
namespace Go.Proofs.Ytnodelimomljbaa.RunRefC
open Go Go.Sx Go.Sx.Flt Go.Sx.Ref

def addDR : List Leaf := [
  ([(.var 0), (.bin .eq (.var 8) (.lit 0)), (.bin .eq (.var 3) (.lit 0)), (.bin .le (.lit 0) (.var 3)), (.bin .le (.var 3) (.lit 9007199254740991)), (.bin .le (.lit (-1074)) (.var 4)), (.bin .le (.var 4) (.lit 971)), (.bin .le (.lit 0) (.var 8)), (.bin .le (.var 8) (.lit 9007199254740991)), (.bin .le (.lit (-1074)) (.var 9)), (.bin .le (.var 9) (.lit 971))], (.int .u64 (.ite (.un .bnot (.un .bnot (.var 5))) (.lit 9223372036854775808) (.lit 0)))),
  ([(.un .bnot (.var 0)), (.bin .eq (.var 8) (.lit 0)), (.bin .eq (.var 3) (.lit 0)), (.bin .le (.lit 0) (.var 3)), (.bin .le (.var 3) (.lit 9007199254740991)), (.bin .le (.lit (-1074)) (.var 4)), (.bin .le (.var 4) (.lit 971)), (.bin .le (.lit 0) (.var 8)), (.bin .le (.var 8) (.lit 9007199254740991)), (.bin .le (.lit (-1074)) (.var 9)), (.bin .le (.var 9) (.lit 971))], (.int .u64 (.ite (.un .bnot (.un .bnot (.lit 0))) (.lit 9223372036854775808) (.lit 0)))),
  ([(.bin .lt (.bin .add (.var 8) (.var 3)) (.var 8)), (.bin .eq (.un .bnot (.un .bnot (.var 5))) (.un .bnot (.un .bnot (.var 0)))), (.un .bnot (.bin .eq (.var 8) (.lit 0))), (.bin .eq (.var 3) (.lit 0)), (.bin .le (.lit 0) (.var 3)), (.bin .le (.var 3) (.lit 9007199254740991)), (.bin .le (.lit (-1074)) (.var 4)), (.bin .le (.var 4) (.lit 971)), (.bin .le (.lit 0) (.var 8)), (.bin .le (.var 8) (.lit 9007199254740991)), (.bin .le (.lit (-1074)) (.var 9)), (.bin .le (.var 9) (.lit 971))], (.int .u64 (.bin .add (.ite (.un .bnot (.un .bnot (.var 5))) (.lit 9223372036854775808) (.lit 0)) (.fn 4 (.bin .add (.lit 18446744073709551616) (.bin .add (.var 8) (.var 3))) (.var 9) (.lit 0))))),
  ([(.bin .lt (.bin .add (.var 8) (.var 3)) (.bin .add (.var 8) (.var 3))), (.bin .le (.var 8) (.bin .add (.var 8) (.var 3))), (.bin .eq (.un .bnot (.un .bnot (.var 5))) (.un .bnot (.un .bnot (.var 0)))), (.un .bnot (.bin .eq (.var 8) (.lit 0))), (.bin .eq (.var 3) (.lit 0)), (.bin .le (.lit 0) (.var 3)), (.bin .le (.var 3) (.lit 9007199254740991)), (.bin .le (.lit (-1074)) (.var 4)), (.bin .le (.var 4) (.lit 971)), (.bin .le (.lit 0) (.var 8)), (.bin .le (.var 8) (.lit 9007199254740991)), (.bin .le (.lit (-1074)) (.var 9)), (.bin .le (.var 9) (.lit 971))], (.int .u64 (.bin .add (.ite (.un .bnot (.un .bnot (.var 5))) (.lit 9223372036854775808) (.lit 0)) (.fn 4 (.bin .add (.lit 18446744073709551616) (.bin .add (.var 8) (.var 3))) (.var 9) (.lit 0))))),
  ([(.bin .le (.bin .add (.var 8) (.var 3)) (.bin .add (.var 8) (.var 3))), (.bin .le (.var 8) (.bin .add (.var 8) (.var 3))), (.bin .eq (.un .bnot (.un .bnot (.var 5))) (.un .bnot (.un .bnot (.var 0)))), (.un .bnot (.bin .eq (.var 8) (.lit 0))), (.bin .eq (.var 3) (.lit 0)), (.bin .le (.lit 0) (.var 3)), (.bin .le (.var 3) (.lit 9007199254740991)), (.bin .le (.lit (-1074)) (.var 4)), (.bin .le (.var 4) (.lit 971)), (.bin .le (.lit 0) (.var 8)), (.bin .le (.var 8) (.lit 9007199254740991)), (.bin .le (.lit (-1074)) (.var 9)), (.bin .le (.var 9) (.lit 971))], (.int .u64 (.bin .add (.ite (.un .bnot (.un .bnot (.var 5))) (.lit 9223372036854775808) (.lit 0)) (.fn 4 (.bin .add (.lit 0) (.bin .add (.var 8) (.var 3))) (.var 9) (.lit 0))))),
  ([(.bin .eq (.bin (.bits .or .u64) (.lit 0) (.bin .sub (.var 8) (.var 3))) (.lit 0)), (.un .bnot (.bin .eq (.un .bnot (.un .bnot (.var 5))) (.un .bnot (.un .bnot (.var 0))))), (.un .bnot (.bin .eq (.var 8) (.lit 0))), (.bin .eq (.var 3) (.lit 0)), (.bin .le (.lit 0) (.var 3)), (.bin .le (.var 3) (.lit 9007199254740991)), (.bin .le (.lit (-1074)) (.var 4)), (.bin .le (.var 4) (.lit 971)), (.bin .le (.lit 0) (.var 8)), (.bin .le (.var 8) (.lit 9007199254740991)), (.bin .le (.lit (-1074)) (.var 9)), (.bin .le (.var 9) (.lit 971))], (.int .u64 (.ite (.un .bnot (.un .bnot (.lit 0))) (.lit 9223372036854775808) (.lit 0)))),
  ([(.un .bnot (.bin .eq (.bin (.bits .or .u64) (.lit 0) (.bin .sub (.var 8) (.var 3))) (.lit 0))), (.un .bnot (.bin .eq (.un .bnot (.un .bnot (.var 5))) (.un .bnot (.un .bnot (.var 0))))), (.un .bnot (.bin .eq (.var 8) (.lit 0))), (.bin .eq (.var 3) (.lit 0)), (.bin .le (.lit 0) (.var 3)), (.bin .le (.var 3) (.lit 9007199254740991)), (.bin .le (.lit (-1074)) (.var 4)), (.bin .le (.var 4) (.lit 971)), (.bin .le (.lit 0) (.var 8)), (.bin .le (.var 8) (.lit 9007199254740991)), (.bin .le (.lit (-1074)) (.var 9)), (.bin .le (.var 9) (.lit 971))], (.int .u64 (.bin .add (.ite (.un .bnot (.un .bnot (.var 5))) (.lit 9223372036854775808) (.lit 0)) (.fn 4 (.bin .add (.lit 0) (.bin .sub (.var 8) (.var 3))) (.var 9) (.lit 0))))),
  ([(.bin .eq (.un .bnot (.un .bnot (.var 5))) (.un .bnot (.un .bnot (.var 0)))), (.bin .lt (.lit 70) (.bin .sub (.var 9) (.var 4))), (.bin .lt (.var 4) (.var 9)), (.un .bnot (.bin .eq (.var 8) (.lit 0))), (.un .bnot (.bin .eq (.var 3) (.lit 0))), (.bin .le (.lit 0) (.var 3)), (.bin .le (.var 3) (.lit 9007199254740991)), (.bin .le (.lit (-1074)) (.var 4)), (.bin .le (.var 4) (.lit 971)), (.bin .le (.lit 0) (.var 8)), (.bin .le (.var 8) (.lit 9007199254740991)), (.bin .le (.lit (-1074)) (.var 9)), (.bin .le (.var 9) (.lit 971))], (.int .u64 (.bin .add (.ite (.un .bnot (.un .bnot (.var 5))) (.lit 9223372036854775808) (.lit 0)) (.fn 4 (.bin .add (.bin .mul (.bin .mul (.var 8) (.lit 64)) (.lit 18446744073709551616)) (.lit 1)) (.bin .add (.var 9) (.lit (-70))) (.lit 0))))),
  ([(.bin .eq (.bin (.bits .or .u64) (.bin .add (.bin .mul (.var 8) (.lit 64)) (.lit (-1))) (.lit 18446744073709551615)) (.lit 0)), (.un .bnot (.bin .eq (.un .bnot (.un .bnot (.var 5))) (.un .bnot (.un .bnot (.var 0))))), (.bin .lt (.lit 70) (.bin .sub (.var 9) (.var 4))), (.bin .lt (.var 4) (.var 9)), (.un .bnot (.bin .eq (.var 8) (.lit 0))), (.un .bnot (.bin .eq (.var 3) (.lit 0))), (.bin .le (.lit 0) (.var 3)), (.bin .le (.var 3) (.lit 9007199254740991)), (.bin .le (.lit (-1074)) (.var 4)), (.bin .le (.var 4) (.lit 971)), (.bin .le (.lit 0) (.var 8)), (.bin .le (.var 8) (.lit 9007199254740991)), (.bin .le (.lit (-1074)) (.var 9)), (.bin .le (.var 9) (.lit 971))], (.int .u64 (.ite (.un .bnot (.un .bnot (.lit 0))) (.lit 9223372036854775808) (.lit 0)))),
  ([(.un .bnot (.bin .eq (.bin (.bits .or .u64) (.bin .add (.bin .mul (.var 8) (.lit 64)) (.lit (-1))) (.lit 18446744073709551615)) (.lit 0))), (.un .bnot (.bin .eq (.un .bnot (.un .bnot (.var 5))) (.un .bnot (.un .bnot (.var 0))))), (.bin .lt (.lit 70) (.bin .sub (.var 9) (.var 4))), (.bin .lt (.var 4) (.var 9)), (.un .bnot (.bin .eq (.var 8) (.lit 0))), (.un .bnot (.bin .eq (.var 3) (.lit 0))), (.bin .le (.lit 0) (.var 3)), (.bin .le (.var 3) (.lit 9007199254740991)), (.bin .le (.lit (-1074)) (.var 4)), (.bin .le (.var 4) (.lit 971)), (.bin .le (.lit 0) (.var 8)), (.bin .le (.var 8) (.lit 9007199254740991)), (.bin .le (.lit (-1074)) (.var 9)), (.bin .le (.var 9) (.lit 971))], (.int .u64 (.bin .add (.ite (.un .bnot (.un .bnot (.var 5))) (.lit 9223372036854775808) (.lit 0)) (.fn 4 (.bin .add (.bin .mul (.bin .add (.bin .mul (.var 8) (.lit 64)) (.lit (-1))) (.lit 18446744073709551616)) (.lit 18446744073709551615)) (.bin .add (.var 9) (.lit (-70))) (.lit 0))))),
  ([(.bin .lt (.var 3) (.var 3)), (.bin .eq (.un .bnot (.un .bnot (.var 5))) (.un .bnot (.un .bnot (.var 0)))), (.bin .le (.lit 64) (.bin .sub (.var 9) (.var 4))), (.bin .le (.bin .sub (.var 9) (.var 4)) (.lit 70)), (.bin .lt (.var 4) (.var 9)), (.un .bnot (.bin .eq (.var 8) (.lit 0))), (.un .bnot (.bin .eq (.var 3) (.lit 0))), (.bin .le (.lit 0) (.var 3)), (.bin .le (.var 3) (.lit 9007199254740991)), (.bin .le (.lit (-1074)) (.var 4)), (.bin .le (.var 4) (.lit 971)), (.bin .le (.lit 0) (.var 8)), (.bin .le (.var 8) (.lit 9007199254740991)), (.bin .le (.lit (-1074)) (.var 9)), (.bin .le (.var 9) (.lit 971))], (.int .u64 (.bin .add (.ite (.un .bnot (.un .bnot (.var 5))) (.lit 9223372036854775808) (.lit 0)) (.fn 4 (.bin .add (.bin .mul (.un (.wrap .u64) (.bin .add (.bin (.shl .u64) (.var 8) (.bin .add (.bin .sub (.var 9) (.var 4)) (.lit (-64)))) (.lit 1))) (.lit 18446744073709551616)) (.var 3)) (.bin .sub (.var 9) (.bin .sub (.var 9) (.var 4))) (.lit 0))))),
  ([(.bin .le (.var 3) (.var 3)), (.bin .eq (.un .bnot (.un .bnot (.var 5))) (.un .bnot (.un .bnot (.var 0)))), (.bin .le (.lit 64) (.bin .sub (.var 9) (.var 4))), (.bin .le (.bin .sub (.var 9) (.var 4)) (.lit 70)), (.bin .lt (.var 4) (.var 9)), (.un .bnot (.bin .eq (.var 8) (.lit 0))), (.un .bnot (.bin .eq (.var 3) (.lit 0))), (.bin .le (.lit 0) (.var 3)), (.bin .le (.var 3) (.lit 9007199254740991)), (.bin .le (.lit (-1074)) (.var 4)), (.bin .le (.var 4) (.lit 971)), (.bin .le (.lit 0) (.var 8)), (.bin .le (.var 8) (.lit 9007199254740991)), (.bin .le (.lit (-1074)) (.var 9)), (.bin .le (.var 9) (.lit 971))], (.int .u64 (.bin .add (.ite (.un .bnot (.un .bnot (.var 5))) (.lit 9223372036854775808) (.lit 0)) (.fn 4 (.bin .add (.bin .mul (.bin (.shl .u64) (.var 8) (.bin .add (.bin .sub (.var 9) (.var 4)) (.lit (-64)))) (.lit 18446744073709551616)) (.var 3)) (.bin .sub (.var 9) (.bin .sub (.var 9) (.var 4))) (.lit 0))))),
  ([(.bin .lt (.bin (.shl .u64) (.var 8) (.bin .add (.bin .sub (.var 9) (.var 4)) (.lit (-64)))) (.lit 1)), (.un .bnot (.bin .eq (.un .bnot (.un .bnot (.var 5))) (.un .bnot (.un .bnot (.var 0))))), (.bin .le (.lit 64) (.bin .sub (.var 9) (.var 4))), (.bin .le (.bin .sub (.var 9) (.var 4)) (.lit 70)), (.bin .lt (.var 4) (.var 9)), (.un .bnot (.bin .eq (.var 8) (.lit 0))), (.un .bnot (.bin .eq (.var 3) (.lit 0))), (.bin .le (.lit 0) (.var 3)), (.bin .le (.var 3) (.lit 9007199254740991)), (.bin .le (.lit (-1074)) (.var 4)), (.bin .le (.var 4) (.lit 971)), (.bin .le (.lit 0) (.var 8)), (.bin .le (.var 8) (.lit 9007199254740991)), (.bin .le (.lit (-1074)) (.var 9)), (.bin .le (.var 9) (.lit 971))], (.int .u64 (.bin .add (.ite (.un .bnot (.un .bnot (.var 0))) (.lit 9223372036854775808) (.lit 0)) (.fn 4 (.bin .add (.lit 0) (.var 3)) (.bin .sub (.var 9) (.bin .sub (.var 9) (.var 4))) (.lit 0))))),
  ([(.bin .eq (.bin (.bits .or .u64) (.un (.wrap .u64) (.bin .add (.bin (.shl .u64) (.var 8) (.bin .add (.bin .sub (.var 9) (.var 4)) (.lit (-64)))) (.lit (-1)))) (.un (.wrap .u64) (.bin .sub (.lit 0) (.var 3)))) (.lit 0)), (.bin .le (.lit 1) (.bin (.shl .u64) (.var 8) (.bin .add (.bin .sub (.var 9) (.var 4)) (.lit (-64))))), (.un .bnot (.bin .eq (.un .bnot (.un .bnot (.var 5))) (.un .bnot (.un .bnot (.var 0))))), (.bin .le (.lit 64) (.bin .sub (.var 9) (.var 4))), (.bin .le (.bin .sub (.var 9) (.var 4)) (.lit 70)), (.bin .lt (.var 4) (.var 9)), (.un .bnot (.bin .eq (.var 8) (.lit 0))), (.un .bnot (.bin .eq (.var 3) (.lit 0))), (.bin .le (.lit 0) (.var 3)), (.bin .le (.var 3) (.lit 9007199254740991)), (.bin .le (.lit (-1074)) (.var 4)), (.bin .le (.var 4) (.lit 971)), (.bin .le (.lit 0) (.var 8)), (.bin .le (.var 8) (.lit 9007199254740991)), (.bin .le (.lit (-1074)) (.var 9)), (.bin .le (.var 9) (.lit 971))], (.int .u64 (.ite (.un .bnot (.un .bnot (.lit 0))) (.lit 9223372036854775808) (.lit 0)))),
  ([(.un .bnot (.bin .eq (.bin (.bits .or .u64) (.un (.wrap .u64) (.bin .add (.bin (.shl .u64) (.var 8) (.bin .add (.bin .sub (.var 9) (.var 4)) (.lit (-64)))) (.lit (-1)))) (.un (.wrap .u64) (.bin .sub (.lit 0) (.var 3)))) (.lit 0))), (.bin .le (.lit 1) (.bin (.shl .u64) (.var 8) (.bin .add (.bin .sub (.var 9) (.var 4)) (.lit (-64))))), (.un .bnot (.bin .eq (.un .bnot (.un .bnot (.var 5))) (.un .bnot (.un .bnot (.var 0))))), (.bin .le (.lit 64) (.bin .sub (.var 9) (.var 4))), (.bin .le (.bin .sub (.var 9) (.var 4)) (.lit 70)), (.bin .lt (.var 4) (.var 9)), (.un .bnot (.bin .eq (.var 8) (.lit 0))), (.un .bnot (.bin .eq (.var 3) (.lit 0))), (.bin .le (.lit 0) (.var 3)), (.bin .le (.var 3) (.lit 9007199254740991)), (.bin .le (.lit (-1074)) (.var 4)), (.bin .le (.var 4) (.lit 971)), (.bin .le (.lit 0) (.var 8)), (.bin .le (.var 8) (.lit 9007199254740991)), (.bin .le (.lit (-1074)) (.var 9)), (.bin .le (.var 9) (.lit 971))], (.int .u64 (.bin .add (.ite (.un .bnot (.un .bnot (.var 5))) (.lit 9223372036854775808) (.lit 0)) (.fn 4 (.bin .add (.bin .mul (.un (.wrap .u64) (.bin .add (.bin (.shl .u64) (.var 8) (.bin .add (.bin .sub (.var 9) (.var 4)) (.lit (-64)))) (.lit (-1)))) (.lit 18446744073709551616)) (.un (.wrap .u64) (.bin .sub (.lit 0) (.var 3)))) (.bin .sub (.var 9) (.bin .sub (.var 9) (.var 4))) (.lit 0))))),
  ([(.bin .lt (.un (.wrap .u64) (.bin .add (.bin (.shl .u64) (.var 8) (.bin .sub (.var 9) (.var 4))) (.var 3))) (.bin (.shl .u64) (.var 8) (.bin .sub (.var 9) (.var 4)))), (.bin .eq (.un .bnot (.un .bnot (.var 5))) (.un .bnot (.un .bnot (.var 0)))), (.bin .lt (.bin .sub (.var 9) (.var 4)) (.lit 64)), (.bin .le (.bin .sub (.var 9) (.var 4)) (.lit 70)), (.bin .lt (.var 4) (.var 9)), (.un .bnot (.bin .eq (.var 8) (.lit 0))), (.un .bnot (.bin .eq (.var 3) (.lit 0))), (.bin .le (.lit 0) (.var 3)), (.bin .le (.var 3) (.lit 9007199254740991)), (.bin .le (.lit (-1074)) (.var 4)), (.bin .le (.var 4) (.lit 971)), (.bin .le (.lit 0) (.var 8)), (.bin .le (.var 8) (.lit 9007199254740991)), (.bin .le (.lit (-1074)) (.var 9)), (.bin .le (.var 9) (.lit 971))], (.int .u64 (.bin .add (.ite (.un .bnot (.un .bnot (.var 5))) (.lit 9223372036854775808) (.lit 0)) (.fn 4 (.bin .add (.bin .mul (.un (.wrap .u64) (.bin .add (.bin (.shr .u64) (.var 8) (.bin .sub (.lit 64) (.bin .sub (.var 9) (.var 4)))) (.lit 1))) (.lit 18446744073709551616)) (.un (.wrap .u64) (.bin .add (.bin (.shl .u64) (.var 8) (.bin .sub (.var 9) (.var 4))) (.var 3)))) (.bin .sub (.var 9) (.bin .sub (.var 9) (.var 4))) (.lit 0))))),
  ([(.bin .lt (.un (.wrap .u64) (.bin .add (.bin (.shl .u64) (.var 8) (.bin .sub (.var 9) (.var 4))) (.var 3))) (.un (.wrap .u64) (.bin .add (.bin (.shl .u64) (.var 8) (.bin .sub (.var 9) (.var 4))) (.var 3)))), (.bin .le (.bin (.shl .u64) (.var 8) (.bin .sub (.var 9) (.var 4))) (.un (.wrap .u64) (.bin .add (.bin (.shl .u64) (.var 8) (.bin .sub (.var 9) (.var 4))) (.var 3)))), (.bin .eq (.un .bnot (.un .bnot (.var 5))) (.un .bnot (.un .bnot (.var 0)))), (.bin .lt (.bin .sub (.var 9) (.var 4)) (.lit 64)), (.bin .le (.bin .sub (.var 9) (.var 4)) (.lit 70)), (.bin .lt (.var 4) (.var 9)), (.un .bnot (.bin .eq (.var 8) (.lit 0))), (.un .bnot (.bin .eq (.var 3) (.lit 0))), (.bin .le (.lit 0) (.var 3)), (.bin .le (.var 3) (.lit 9007199254740991)), (.bin .le (.lit (-1074)) (.var 4)), (.bin .le (.var 4) (.lit 971)), (.bin .le (.lit 0) (.var 8)), (.bin .le (.var 8) (.lit 9007199254740991)), (.bin .le (.lit (-1074)) (.var 9)), (.bin .le (.var 9) (.lit 971))], (.int .u64 (.bin .add (.ite (.un .bnot (.un .bnot (.var 5))) (.lit 9223372036854775808) (.lit 0)) (.fn 4 (.bin .add (.bin .mul (.un (.wrap .u64) (.bin .add (.bin (.shr .u64) (.var 8) (.bin .sub (.lit 64) (.bin .sub (.var 9) (.var 4)))) (.lit 1))) (.lit 18446744073709551616)) (.un (.wrap .u64) (.bin .add (.bin (.shl .u64) (.var 8) (.bin .sub (.var 9) (.var 4))) (.var 3)))) (.bin .sub (.var 9) (.bin .sub (.var 9) (.var 4))) (.lit 0))))),
  ([(.bin .le (.un (.wrap .u64) (.bin .add (.bin (.shl .u64) (.var 8) (.bin .sub (.var 9) (.var 4))) (.var 3))) (.un (.wrap .u64) (.bin .add (.bin (.shl .u64) (.var 8) (.bin .sub (.var 9) (.var 4))) (.var 3)))), (.bin .le (.bin (.shl .u64) (.var 8) (.bin .sub (.var 9) (.var 4))) (.un (.wrap .u64) (.bin .add (.bin (.shl .u64) (.var 8) (.bin .sub (.var 9) (.var 4))) (.var 3)))), (.bin .eq (.un .bnot (.un .bnot (.var 5))) (.un .bnot (.un .bnot (.var 0)))), (.bin .lt (.bin .sub (.var 9) (.var 4)) (.lit 64)), (.bin .le (.bin .sub (.var 9) (.var 4)) (.lit 70)), (.bin .lt (.var 4) (.var 9)), (.un .bnot (.bin .eq (.var 8) (.lit 0))), (.un .bnot (.bin .eq (.var 3) (.lit 0))), (.bin .le (.lit 0) (.var 3)), (.bin .le (.var 3) (.lit 9007199254740991)), (.bin .le (.lit (-1074)) (.var 4)), (.bin .le (.var 4) (.lit 971)), (.bin .le (.lit 0) (.var 8)), (.bin .le (.var 8) (.lit 9007199254740991)), (.bin .le (.lit (-1074)) (.var 9)), (.bin .le (.var 9) (.lit 971))], (.int .u64 (.bin .add (.ite (.un .bnot (.un .bnot (.var 5))) (.lit 9223372036854775808) (.lit 0)) (.fn 4 (.bin .add (.bin .mul (.un (.wrap .u64) (.bin (.shr .u64) (.var 8) (.bin .sub (.lit 64) (.bin .sub (.var 9) (.var 4))))) (.lit 18446744073709551616)) (.un (.wrap .u64) (.bin .add (.bin (.shl .u64) (.var 8) (.bin .sub (.var 9) (.var 4))) (.var 3)))) (.bin .sub (.var 9) (.bin .sub (.var 9) (.var 4))) (.lit 0))))),
  ([(.bin .lt (.bin (.shr .u64) (.var 8) (.bin .sub (.lit 64) (.bin .sub (.var 9) (.var 4)))) (.lit 0)), (.bin .lt (.bin (.shl .u64) (.var 8) (.bin .sub (.var 9) (.var 4))) (.var 3)), (.un .bnot (.bin .eq (.un .bnot (.un .bnot (.var 5))) (.un .bnot (.un .bnot (.var 0))))), (.bin .lt (.bin .sub (.var 9) (.var 4)) (.lit 64)), (.bin .le (.bin .sub (.var 9) (.var 4)) (.lit 70)), (.bin .lt (.var 4) (.var 9)), (.un .bnot (.bin .eq (.var 8) (.lit 0))), (.un .bnot (.bin .eq (.var 3) (.lit 0))), (.bin .le (.lit 0) (.var 3)), (.bin .le (.var 3) (.lit 9007199254740991)), (.bin .le (.lit (-1074)) (.var 4)), (.bin .le (.var 4) (.lit 971)), (.bin .le (.lit 0) (.var 8)), (.bin .le (.var 8) (.lit 9007199254740991)), (.bin .le (.lit (-1074)) (.var 9)), (.bin .le (.var 9) (.lit 971))], (.int .u64 (.bin .add (.ite (.un .bnot (.un .bnot (.var 0))) (.lit 9223372036854775808) (.lit 0)) (.fn 4 (.bin .add (.lit 0) (.bin .sub (.var 3) (.bin (.shl .u64) (.var 8) (.bin .sub (.var 9) (.var 4))))) (.bin .sub (.var 9) (.bin .sub (.var 9) (.var 4))) (.lit 0))))),
  ([(.bin .lt (.un (.wrap .u64) (.bin (.shr .u64) (.var 8) (.bin .sub (.lit 64) (.bin .sub (.var 9) (.var 4))))) (.lit 1)), (.bin .le (.lit 0) (.bin (.shr .u64) (.var 8) (.bin .sub (.lit 64) (.bin .sub (.var 9) (.var 4))))), (.bin .lt (.bin (.shl .u64) (.var 8) (.bin .sub (.var 9) (.var 4))) (.var 3)), (.un .bnot (.bin .eq (.un .bnot (.un .bnot (.var 5))) (.un .bnot (.un .bnot (.var 0))))), (.bin .lt (.bin .sub (.var 9) (.var 4)) (.lit 64)), (.bin .le (.bin .sub (.var 9) (.var 4)) (.lit 70)), (.bin .lt (.var 4) (.var 9)), (.un .bnot (.bin .eq (.var 8) (.lit 0))), (.un .bnot (.bin .eq (.var 3) (.lit 0))), (.bin .le (.lit 0) (.var 3)), (.bin .le (.var 3) (.lit 9007199254740991)), (.bin .le (.lit (-1074)) (.var 4)), (.bin .le (.var 4) (.lit 971)), (.bin .le (.lit 0) (.var 8)), (.bin .le (.var 8) (.lit 9007199254740991)), (.bin .le (.lit (-1074)) (.var 9)), (.bin .le (.var 9) (.lit 971))], (.int .u64 (.bin .add (.ite (.un .bnot (.un .bnot (.var 0))) (.lit 9223372036854775808) (.lit 0)) (.fn 4 (.bin .add (.lit 0) (.bin .sub (.var 3) (.bin (.shl .u64) (.var 8) (.bin .sub (.var 9) (.var 4))))) (.bin .sub (.var 9) (.bin .sub (.var 9) (.var 4))) (.lit 0))))),
  ([(.bin .eq (.bin (.bits .or .u64) (.un (.wrap .u64) (.bin .add (.un (.wrap .u64) (.bin (.shr .u64) (.var 8) (.bin .sub (.lit 64) (.bin .sub (.var 9) (.var 4))))) (.lit (-1)))) (.un (.wrap .u64) (.bin .sub (.bin (.shl .u64) (.var 8) (.bin .sub (.var 9) (.var 4))) (.var 3)))) (.lit 0)), (.bin .le (.lit 1) (.un (.wrap .u64) (.bin (.shr .u64) (.var 8) (.bin .sub (.lit 64) (.bin .sub (.var 9) (.var 4)))))), (.bin .le (.lit 0) (.bin (.shr .u64) (.var 8) (.bin .sub (.lit 64) (.bin .sub (.var 9) (.var 4))))), (.bin .lt (.bin (.shl .u64) (.var 8) (.bin .sub (.var 9) (.var 4))) (.var 3)), (.un .bnot (.bin .eq (.un .bnot (.un .bnot (.var 5))) (.un .bnot (.un .bnot (.var 0))))), (.bin .lt (.bin .sub (.var 9) (.var 4)) (.lit 64)), (.bin .le (.bin .sub (.var 9) (.var 4)) (.lit 70)), (.bin .lt (.var 4) (.var 9)), (.un .bnot (.bin .eq (.var 8) (.lit 0))), (.un .bnot (.bin .eq (.var 3) (.lit 0))), (.bin .le (.lit 0) (.var 3)), (.bin .le (.var 3) (.lit 9007199254740991)), (.bin .le (.lit (-1074)) (.var 4)), (.bin .le (.var 4) (.lit 971)), (.bin .le (.lit 0) (.var 8)), (.bin .le (.var 8) (.lit 9007199254740991)), (.bin .le (.lit (-1074)) (.var 9)), (.bin .le (.var 9) (.lit 971))], (.int .u64 (.ite (.un .bnot (.un .bnot (.lit 0))) (.lit 9223372036854775808) (.lit 0)))),
  ([(.un .bnot (.bin .eq (.bin (.bits .or .u64) (.un (.wrap .u64) (.bin .add (.un (.wrap .u64) (.bin (.shr .u64) (.var 8) (.bin .sub (.lit 64) (.bin .sub (.var 9) (.var 4))))) (.lit (-1)))) (.un (.wrap .u64) (.bin .sub (.bin (.shl .u64) (.var 8) (.bin .sub (.var 9) (.var 4))) (.var 3)))) (.lit 0))), (.bin .le (.lit 1) (.un (.wrap .u64) (.bin (.shr .u64) (.var 8) (.bin .sub (.lit 64) (.bin .sub (.var 9) (.var 4)))))), (.bin .le (.lit 0) (.bin (.shr .u64) (.var 8) (.bin .sub (.lit 64) (.bin .sub (.var 9) (.var 4))))), (.bin .lt (.bin (.shl .u64) (.var 8) (.bin .sub (.var 9) (.var 4))) (.var 3)), (.un .bnot (.bin .eq (.un .bnot (.un .bnot (.var 5))) (.un .bnot (.un .bnot (.var 0))))), (.bin .lt (.bin .sub (.var 9) (.var 4)) (.lit 64)), (.bin .le (.bin .sub (.var 9) (.var 4)) (.lit 70)), (.bin .lt (.var 4) (.var 9)), (.un .bnot (.bin .eq (.var 8) (.lit 0))), (.un .bnot (.bin .eq (.var 3) (.lit 0))), (.bin .le (.lit 0) (.var 3)), (.bin .le (.var 3) (.lit 9007199254740991)), (.bin .le (.lit (-1074)) (.var 4)), (.bin .le (.var 4) (.lit 971)), (.bin .le (.lit 0) (.var 8)), (.bin .le (.var 8) (.lit 9007199254740991)), (.bin .le (.lit (-1074)) (.var 9)), (.bin .le (.var 9) (.lit 971))], (.int .u64 (.bin .add (.ite (.un .bnot (.un .bnot (.var 5))) (.lit 9223372036854775808) (.lit 0)) (.fn 4 (.bin .add (.bin .mul (.un (.wrap .u64) (.bin .add (.un (.wrap .u64) (.bin (.shr .u64) (.var 8) (.bin .sub (.lit 64) (.bin .sub (.var 9) (.var 4))))) (.lit (-1)))) (.lit 18446744073709551616)) (.un (.wrap .u64) (.bin .sub (.bin (.shl .u64) (.var 8) (.bin .sub (.var 9) (.var 4))) (.var 3)))) (.bin .sub (.var 9) (.bin .sub (.var 9) (.var 4))) (.lit 0))))),
  ([(.bin .lt (.bin (.shr .u64) (.var 8) (.bin .sub (.lit 64) (.bin .sub (.var 9) (.var 4)))) (.lit 0)), (.bin .le (.var 3) (.bin (.shl .u64) (.var 8) (.bin .sub (.var 9) (.var 4)))), (.un .bnot (.bin .eq (.un .bnot (.un .bnot (.var 5))) (.un .bnot (.un .bnot (.var 0))))), (.bin .lt (.bin .sub (.var 9) (.var 4)) (.lit 64)), (.bin .le (.bin .sub (.var 9) (.var 4)) (.lit 70)), (.bin .lt (.var 4) (.var 9)), (.un .bnot (.bin .eq (.var 8) (.lit 0))), (.un .bnot (.bin .eq (.var 3) (.lit 0))), (.bin .le (.lit 0) (.var 3)), (.bin .le (.var 3) (.lit 9007199254740991)), (.bin .le (.lit (-1074)) (.var 4)), (.bin .le (.var 4) (.lit 971)), (.bin .le (.lit 0) (.var 8)), (.bin .le (.var 8) (.lit 9007199254740991)), (.bin .le (.lit (-1074)) (.var 9)), (.bin .le (.var 9) (.lit 971))], (.int .u64 (.bin .add (.ite (.un .bnot (.un .bnot (.var 0))) (.lit 9223372036854775808) (.lit 0)) (.fn 4 (.bin .add (.lit 0) (.un (.wrap .u64) (.bin .sub (.var 3) (.bin (.shl .u64) (.var 8) (.bin .sub (.var 9) (.var 4)))))) (.bin .sub (.var 9) (.bin .sub (.var 9) (.var 4))) (.lit 0))))),
  ([(.bin .eq (.bin (.bits .or .u64) (.un (.wrap .u64) (.bin (.shr .u64) (.var 8) (.bin .sub (.lit 64) (.bin .sub (.var 9) (.var 4))))) (.un (.wrap .u64) (.bin .sub (.bin (.shl .u64) (.var 8) (.bin .sub (.var 9) (.var 4))) (.var 3)))) (.lit 0)), (.bin .le (.lit 0) (.bin (.shr .u64) (.var 8) (.bin .sub (.lit 64) (.bin .sub (.var 9) (.var 4))))), (.bin .le (.var 3) (.bin (.shl .u64) (.var 8) (.bin .sub (.var 9) (.var 4)))), (.un .bnot (.bin .eq (.un .bnot (.un .bnot (.var 5))) (.un .bnot (.un .bnot (.var 0))))), (.bin .lt (.bin .sub (.var 9) (.var 4)) (.lit 64)), (.bin .le (.bin .sub (.var 9) (.var 4)) (.lit 70)), (.bin .lt (.var 4) (.var 9)), (.un .bnot (.bin .eq (.var 8) (.lit 0))), (.un .bnot (.bin .eq (.var 3) (.lit 0))), (.bin .le (.lit 0) (.var 3)), (.bin .le (.var 3) (.lit 9007199254740991)), (.bin .le (.lit (-1074)) (.var 4)), (.bin .le (.var 4) (.lit 971)), (.bin .le (.lit 0) (.var 8)), (.bin .le (.var 8) (.lit 9007199254740991)), (.bin .le (.lit (-1074)) (.var 9)), (.bin .le (.var 9) (.lit 971))], (.int .u64 (.ite (.un .bnot (.un .bnot (.lit 0))) (.lit 9223372036854775808) (.lit 0)))),
  ([(.un .bnot (.bin .eq (.bin (.bits .or .u64) (.un (.wrap .u64) (.bin (.shr .u64) (.var 8) (.bin .sub (.lit 64) (.bin .sub (.var 9) (.var 4))))) (.un (.wrap .u64) (.bin .sub (.bin (.shl .u64) (.var 8) (.bin .sub (.var 9) (.var 4))) (.var 3)))) (.lit 0))), (.bin .le (.lit 0) (.bin (.shr .u64) (.var 8) (.bin .sub (.lit 64) (.bin .sub (.var 9) (.var 4))))), (.bin .le (.var 3) (.bin (.shl .u64) (.var 8) (.bin .sub (.var 9) (.var 4)))), (.un .bnot (.bin .eq (.un .bnot (.un .bnot (.var 5))) (.un .bnot (.un .bnot (.var 0))))), (.bin .lt (.bin .sub (.var 9) (.var 4)) (.lit 64)), (.bin .le (.bin .sub (.var 9) (.var 4)) (.lit 70)), (.bin .lt (.var 4) (.var 9)), (.un .bnot (.bin .eq (.var 8) (.lit 0))), (.un .bnot (.bin .eq (.var 3) (.lit 0))), (.bin .le (.lit 0) (.var 3)), (.bin .le (.var 3) (.lit 9007199254740991)), (.bin .le (.lit (-1074)) (.var 4)), (.bin .le (.var 4) (.lit 971)), (.bin .le (.lit 0) (.var 8)), (.bin .le (.var 8) (.lit 9007199254740991)), (.bin .le (.lit (-1074)) (.var 9)), (.bin .le (.var 9) (.lit 971))], (.int .u64 (.bin .add (.ite (.un .bnot (.un .bnot (.var 5))) (.lit 9223372036854775808) (.lit 0)) (.fn 4 (.bin .add (.bin .mul (.un (.wrap .u64) (.bin (.shr .u64) (.var 8) (.bin .sub (.lit 64) (.bin .sub (.var 9) (.var 4))))) (.lit 18446744073709551616)) (.un (.wrap .u64) (.bin .sub (.bin (.shl .u64) (.var 8) (.bin .sub (.var 9) (.var 4))) (.var 3)))) (.bin .sub (.var 9) (.bin .sub (.var 9) (.var 4))) (.lit 0))))),
  ([(.bin .eq (.un .bnot (.un .bnot (.var 0))) (.un .bnot (.un .bnot (.var 5)))), (.bin .lt (.lit 70) (.bin .sub (.var 4) (.var 9))), (.bin .le (.var 9) (.var 4)), (.un .bnot (.bin .eq (.var 8) (.lit 0))), (.un .bnot (.bin .eq (.var 3) (.lit 0))), (.bin .le (.lit 0) (.var 3)), (.bin .le (.var 3) (.lit 9007199254740991)), (.bin .le (.lit (-1074)) (.var 4)), (.bin .le (.var 4) (.lit 971)), (.bin .le (.lit 0) (.var 8)), (.bin .le (.var 8) (.lit 9007199254740991)), (.bin .le (.lit (-1074)) (.var 9)), (.bin .le (.var 9) (.lit 971))], (.int .u64 (.bin .add (.ite (.un .bnot (.un .bnot (.var 0))) (.lit 9223372036854775808) (.lit 0)) (.fn 4 (.bin .add (.bin .mul (.bin .mul (.var 3) (.lit 64)) (.lit 18446744073709551616)) (.lit 1)) (.bin .add (.var 4) (.lit (-70))) (.lit 0))))),
  ([(.bin .eq (.bin (.bits .or .u64) (.bin .add (.bin .mul (.var 3) (.lit 64)) (.lit (-1))) (.lit 18446744073709551615)) (.lit 0)), (.un .bnot (.bin .eq (.un .bnot (.un .bnot (.var 0))) (.un .bnot (.un .bnot (.var 5))))), (.bin .lt (.lit 70) (.bin .sub (.var 4) (.var 9))), (.bin .le (.var 9) (.var 4)), (.un .bnot (.bin .eq (.var 8) (.lit 0))), (.un .bnot (.bin .eq (.var 3) (.lit 0))), (.bin .le (.lit 0) (.var 3)), (.bin .le (.var 3) (.lit 9007199254740991)), (.bin .le (.lit (-1074)) (.var 4)), (.bin .le (.var 4) (.lit 971)), (.bin .le (.lit 0) (.var 8)), (.bin .le (.var 8) (.lit 9007199254740991)), (.bin .le (.lit (-1074)) (.var 9)), (.bin .le (.var 9) (.lit 971))], (.int .u64 (.ite (.un .bnot (.un .bnot (.lit 0))) (.lit 9223372036854775808) (.lit 0)))),
  ([(.un .bnot (.bin .eq (.bin (.bits .or .u64) (.bin .add (.bin .mul (.var 3) (.lit 64)) (.lit (-1))) (.lit 18446744073709551615)) (.lit 0))), (.un .bnot (.bin .eq (.un .bnot (.un .bnot (.var 0))) (.un .bnot (.un .bnot (.var 5))))), (.bin .lt (.lit 70) (.bin .sub (.var 4) (.var 9))), (.bin .le (.var 9) (.var 4)), (.un .bnot (.bin .eq (.var 8) (.lit 0))), (.un .bnot (.bin .eq (.var 3) (.lit 0))), (.bin .le (.lit 0) (.var 3)), (.bin .le (.var 3) (.lit 9007199254740991)), (.bin .le (.lit (-1074)) (.var 4)), (.bin .le (.var 4) (.lit 971)), (.bin .le (.lit 0) (.var 8)), (.bin .le (.var 8) (.lit 9007199254740991)), (.bin .le (.lit (-1074)) (.var 9)), (.bin .le (.var 9) (.lit 971))], (.int .u64 (.bin .add (.ite (.un .bnot (.un .bnot (.var 0))) (.lit 9223372036854775808) (.lit 0)) (.fn 4 (.bin .add (.bin .mul (.bin .add (.bin .mul (.var 3) (.lit 64)) (.lit (-1))) (.lit 18446744073709551616)) (.lit 18446744073709551615)) (.bin .add (.var 4) (.lit (-70))) (.lit 0))))),
  ([(.bin .lt (.var 8) (.var 8)), (.bin .eq (.un .bnot (.un .bnot (.var 0))) (.un .bnot (.un .bnot (.var 5)))), (.bin .le (.lit 64) (.bin .sub (.var 4) (.var 9))), (.bin .le (.bin .sub (.var 4) (.var 9)) (.lit 70)), (.bin .le (.var 9) (.var 4)), (.un .bnot (.bin .eq (.var 8) (.lit 0))), (.un .bnot (.bin .eq (.var 3) (.lit 0))), (.bin .le (.lit 0) (.var 3)), (.bin .le (.var 3) (.lit 9007199254740991)), (.bin .le (.lit (-1074)) (.var 4)), (.bin .le (.var 4) (.lit 971)), (.bin .le (.lit 0) (.var 8)), (.bin .le (.var 8) (.lit 9007199254740991)), (.bin .le (.lit (-1074)) (.var 9)), (.bin .le (.var 9) (.lit 971))], (.int .u64 (.bin .add (.ite (.un .bnot (.un .bnot (.var 0))) (.lit 9223372036854775808) (.lit 0)) (.fn 4 (.bin .add (.bin .mul (.un (.wrap .u64) (.bin .add (.bin (.shl .u64) (.var 3) (.bin .add (.bin .sub (.var 4) (.var 9)) (.lit (-64)))) (.lit 1))) (.lit 18446744073709551616)) (.var 8)) (.bin .sub (.var 4) (.bin .sub (.var 4) (.var 9))) (.lit 0))))),
  ([(.bin .le (.var 8) (.var 8)), (.bin .eq (.un .bnot (.un .bnot (.var 0))) (.un .bnot (.un .bnot (.var 5)))), (.bin .le (.lit 64) (.bin .sub (.var 4) (.var 9))), (.bin .le (.bin .sub (.var 4) (.var 9)) (.lit 70)), (.bin .le (.var 9) (.var 4)), (.un .bnot (.bin .eq (.var 8) (.lit 0))), (.un .bnot (.bin .eq (.var 3) (.lit 0))), (.bin .le (.lit 0) (.var 3)), (.bin .le (.var 3) (.lit 9007199254740991)), (.bin .le (.lit (-1074)) (.var 4)), (.bin .le (.var 4) (.lit 971)), (.bin .le (.lit 0) (.var 8)), (.bin .le (.var 8) (.lit 9007199254740991)), (.bin .le (.lit (-1074)) (.var 9)), (.bin .le (.var 9) (.lit 971))], (.int .u64 (.bin .add (.ite (.un .bnot (.un .bnot (.var 0))) (.lit 9223372036854775808) (.lit 0)) (.fn 4 (.bin .add (.bin .mul (.bin (.shl .u64) (.var 3) (.bin .add (.bin .sub (.var 4) (.var 9)) (.lit (-64)))) (.lit 18446744073709551616)) (.var 8)) (.bin .sub (.var 4) (.bin .sub (.var 4) (.var 9))) (.lit 0))))),
  ([(.bin .lt (.bin (.shl .u64) (.var 3) (.bin .add (.bin .sub (.var 4) (.var 9)) (.lit (-64)))) (.lit 1)), (.un .bnot (.bin .eq (.un .bnot (.un .bnot (.var 0))) (.un .bnot (.un .bnot (.var 5))))), (.bin .le (.lit 64) (.bin .sub (.var 4) (.var 9))), (.bin .le (.bin .sub (.var 4) (.var 9)) (.lit 70)), (.bin .le (.var 9) (.var 4)), (.un .bnot (.bin .eq (.var 8) (.lit 0))), (.un .bnot (.bin .eq (.var 3) (.lit 0))), (.bin .le (.lit 0) (.var 3)), (.bin .le (.var 3) (.lit 9007199254740991)), (.bin .le (.lit (-1074)) (.var 4)), (.bin .le (.var 4) (.lit 971)), (.bin .le (.lit 0) (.var 8)), (.bin .le (.var 8) (.lit 9007199254740991)), (.bin .le (.lit (-1074)) (.var 9)), (.bin .le (.var 9) (.lit 971))], (.int .u64 (.bin .add (.ite (.un .bnot (.un .bnot (.var 5))) (.lit 9223372036854775808) (.lit 0)) (.fn 4 (.bin .add (.lit 0) (.var 8)) (.bin .sub (.var 4) (.bin .sub (.var 4) (.var 9))) (.lit 0))))),
  ([(.bin .eq (.bin (.bits .or .u64) (.un (.wrap .u64) (.bin .add (.bin (.shl .u64) (.var 3) (.bin .add (.bin .sub (.var 4) (.var 9)) (.lit (-64)))) (.lit (-1)))) (.un (.wrap .u64) (.bin .sub (.lit 0) (.var 8)))) (.lit 0)), (.bin .le (.lit 1) (.bin (.shl .u64) (.var 3) (.bin .add (.bin .sub (.var 4) (.var 9)) (.lit (-64))))), (.un .bnot (.bin .eq (.un .bnot (.un .bnot (.var 0))) (.un .bnot (.un .bnot (.var 5))))), (.bin .le (.lit 64) (.bin .sub (.var 4) (.var 9))), (.bin .le (.bin .sub (.var 4) (.var 9)) (.lit 70)), (.bin .le (.var 9) (.var 4)), (.un .bnot (.bin .eq (.var 8) (.lit 0))), (.un .bnot (.bin .eq (.var 3) (.lit 0))), (.bin .le (.lit 0) (.var 3)), (.bin .le (.var 3) (.lit 9007199254740991)), (.bin .le (.lit (-1074)) (.var 4)), (.bin .le (.var 4) (.lit 971)), (.bin .le (.lit 0) (.var 8)), (.bin .le (.var 8) (.lit 9007199254740991)), (.bin .le (.lit (-1074)) (.var 9)), (.bin .le (.var 9) (.lit 971))], (.int .u64 (.ite (.un .bnot (.un .bnot (.lit 0))) (.lit 9223372036854775808) (.lit 0)))),
  ([(.un .bnot (.bin .eq (.bin (.bits .or .u64) (.un (.wrap .u64) (.bin .add (.bin (.shl .u64) (.var 3) (.bin .add (.bin .sub (.var 4) (.var 9)) (.lit (-64)))) (.lit (-1)))) (.un (.wrap .u64) (.bin .sub (.lit 0) (.var 8)))) (.lit 0))), (.bin .le (.lit 1) (.bin (.shl .u64) (.var 3) (.bin .add (.bin .sub (.var 4) (.var 9)) (.lit (-64))))), (.un .bnot (.bin .eq (.un .bnot (.un .bnot (.var 0))) (.un .bnot (.un .bnot (.var 5))))), (.bin .le (.lit 64) (.bin .sub (.var 4) (.var 9))), (.bin .le (.bin .sub (.var 4) (.var 9)) (.lit 70)), (.bin .le (.var 9) (.var 4)), (.un .bnot (.bin .eq (.var 8) (.lit 0))), (.un .bnot (.bin .eq (.var 3) (.lit 0))), (.bin .le (.lit 0) (.var 3)), (.bin .le (.var 3) (.lit 9007199254740991)), (.bin .le (.lit (-1074)) (.var 4)), (.bin .le (.var 4) (.lit 971)), (.bin .le (.lit 0) (.var 8)), (.bin .le (.var 8) (.lit 9007199254740991)), (.bin .le (.lit (-1074)) (.var 9)), (.bin .le (.var 9) (.lit 971))], (.int .u64 (.bin .add (.ite (.un .bnot (.un .bnot (.var 0))) (.lit 9223372036854775808) (.lit 0)) (.fn 4 (.bin .add (.bin .mul (.un (.wrap .u64) (.bin .add (.bin (.shl .u64) (.var 3) (.bin .add (.bin .sub (.var 4) (.var 9)) (.lit (-64)))) (.lit (-1)))) (.lit 18446744073709551616)) (.un (.wrap .u64) (.bin .sub (.lit 0) (.var 8)))) (.bin .sub (.var 4) (.bin .sub (.var 4) (.var 9))) (.lit 0))))),
  ([(.bin .lt (.bin .add (.var 3) (.var 8)) (.var 3)), (.bin .eq (.un .bnot (.un .bnot (.var 0))) (.un .bnot (.un .bnot (.var 5)))), (.bin .eq (.bin .sub (.var 4) (.var 9)) (.lit 0)), (.bin .lt (.bin .sub (.var 4) (.var 9)) (.lit 64)), (.bin .le (.bin .sub (.var 4) (.var 9)) (.lit 70)), (.bin .le (.var 9) (.var 4)), (.un .bnot (.bin .eq (.var 8) (.lit 0))), (.un .bnot (.bin .eq (.var 3) (.lit 0))), (.bin .le (.lit 0) (.var 3)), (.bin .le (.var 3) (.lit 9007199254740991)), (.bin .le (.lit (-1074)) (.var 4)), (.bin .le (.var 4) (.lit 971)), (.bin .le (.lit 0) (.var 8)), (.bin .le (.var 8) (.lit 9007199254740991)), (.bin .le (.lit (-1074)) (.var 9)), (.bin .le (.var 9) (.lit 971))], (.int .u64 (.bin .add (.ite (.un .bnot (.un .bnot (.var 0))) (.lit 9223372036854775808) (.lit 0)) (.fn 4 (.bin .add (.lit 18446744073709551616) (.bin .add (.var 3) (.var 8))) (.bin .sub (.var 4) (.bin .sub (.var 4) (.var 9))) (.lit 0))))),
  ([(.bin .lt (.bin .add (.var 3) (.var 8)) (.bin .add (.var 3) (.var 8))), (.bin .le (.var 3) (.bin .add (.var 3) (.var 8))), (.bin .eq (.un .bnot (.un .bnot (.var 0))) (.un .bnot (.un .bnot (.var 5)))), (.bin .eq (.bin .sub (.var 4) (.var 9)) (.lit 0)), (.bin .lt (.bin .sub (.var 4) (.var 9)) (.lit 64)), (.bin .le (.bin .sub (.var 4) (.var 9)) (.lit 70)), (.bin .le (.var 9) (.var 4)), (.un .bnot (.bin .eq (.var 8) (.lit 0))), (.un .bnot (.bin .eq (.var 3) (.lit 0))), (.bin .le (.lit 0) (.var 3)), (.bin .le (.var 3) (.lit 9007199254740991)), (.bin .le (.lit (-1074)) (.var 4)), (.bin .le (.var 4) (.lit 971)), (.bin .le (.lit 0) (.var 8)), (.bin .le (.var 8) (.lit 9007199254740991)), (.bin .le (.lit (-1074)) (.var 9)), (.bin .le (.var 9) (.lit 971))], (.int .u64 (.bin .add (.ite (.un .bnot (.un .bnot (.var 0))) (.lit 9223372036854775808) (.lit 0)) (.fn 4 (.bin .add (.lit 18446744073709551616) (.bin .add (.var 3) (.var 8))) (.bin .sub (.var 4) (.bin .sub (.var 4) (.var 9))) (.lit 0))))),
  ([(.bin .le (.bin .add (.var 3) (.var 8)) (.bin .add (.var 3) (.var 8))), (.bin .le (.var 3) (.bin .add (.var 3) (.var 8))), (.bin .eq (.un .bnot (.un .bnot (.var 0))) (.un .bnot (.un .bnot (.var 5)))), (.bin .eq (.bin .sub (.var 4) (.var 9)) (.lit 0)), (.bin .lt (.bin .sub (.var 4) (.var 9)) (.lit 64)), (.bin .le (.bin .sub (.var 4) (.var 9)) (.lit 70)), (.bin .le (.var 9) (.var 4)), (.un .bnot (.bin .eq (.var 8) (.lit 0))), (.un .bnot (.bin .eq (.var 3) (.lit 0))), (.bin .le (.lit 0) (.var 3)), (.bin .le (.var 3) (.lit 9007199254740991)), (.bin .le (.lit (-1074)) (.var 4)), (.bin .le (.var 4) (.lit 971)), (.bin .le (.lit 0) (.var 8)), (.bin .le (.var 8) (.lit 9007199254740991)), (.bin .le (.lit (-1074)) (.var 9)), (.bin .le (.var 9) (.lit 971))], (.int .u64 (.bin .add (.ite (.un .bnot (.un .bnot (.var 0))) (.lit 9223372036854775808) (.lit 0)) (.fn 4 (.bin .add (.lit 0) (.bin .add (.var 3) (.var 8))) (.bin .sub (.var 4) (.bin .sub (.var 4) (.var 9))) (.lit 0))))),
  ([(.bin .lt (.var 3) (.var 8)), (.un .bnot (.bin .eq (.un .bnot (.un .bnot (.var 0))) (.un .bnot (.un .bnot (.var 5))))), (.bin .eq (.bin .sub (.var 4) (.var 9)) (.lit 0)), (.bin .lt (.bin .sub (.var 4) (.var 9)) (.lit 64)), (.bin .le (.bin .sub (.var 4) (.var 9)) (.lit 70)), (.bin .le (.var 9) (.var 4)), (.un .bnot (.bin .eq (.var 8) (.lit 0))), (.un .bnot (.bin .eq (.var 3) (.lit 0))), (.bin .le (.lit 0) (.var 3)), (.bin .le (.var 3) (.lit 9007199254740991)), (.bin .le (.lit (-1074)) (.var 4)), (.bin .le (.var 4) (.lit 971)), (.bin .le (.lit 0) (.var 8)), (.bin .le (.var 8) (.lit 9007199254740991)), (.bin .le (.lit (-1074)) (.var 9)), (.bin .le (.var 9) (.lit 971))], (.int .u64 (.bin .add (.ite (.un .bnot (.un .bnot (.var 5))) (.lit 9223372036854775808) (.lit 0)) (.fn 4 (.bin .add (.lit 0) (.bin .sub (.var 8) (.var 3))) (.bin .sub (.var 4) (.bin .sub (.var 4) (.var 9))) (.lit 0))))),
  ([(.bin .eq (.bin (.bits .or .u64) (.lit 0) (.un (.wrap .u64) (.bin .sub (.var 3) (.var 8)))) (.lit 0)), (.bin .le (.var 8) (.var 3)), (.un .bnot (.bin .eq (.un .bnot (.un .bnot (.var 0))) (.un .bnot (.un .bnot (.var 5))))), (.bin .eq (.bin .sub (.var 4) (.var 9)) (.lit 0)), (.bin .lt (.bin .sub (.var 4) (.var 9)) (.lit 64)), (.bin .le (.bin .sub (.var 4) (.var 9)) (.lit 70)), (.bin .le (.var 9) (.var 4)), (.un .bnot (.bin .eq (.var 8) (.lit 0))), (.un .bnot (.bin .eq (.var 3) (.lit 0))), (.bin .le (.lit 0) (.var 3)), (.bin .le (.var 3) (.lit 9007199254740991)), (.bin .le (.lit (-1074)) (.var 4)), (.bin .le (.var 4) (.lit 971)), (.bin .le (.lit 0) (.var 8)), (.bin .le (.var 8) (.lit 9007199254740991)), (.bin .le (.lit (-1074)) (.var 9)), (.bin .le (.var 9) (.lit 971))], (.int .u64 (.ite (.un .bnot (.un .bnot (.lit 0))) (.lit 9223372036854775808) (.lit 0)))),
  ([(.un .bnot (.bin .eq (.bin (.bits .or .u64) (.lit 0) (.un (.wrap .u64) (.bin .sub (.var 3) (.var 8)))) (.lit 0))), (.bin .le (.var 8) (.var 3)), (.un .bnot (.bin .eq (.un .bnot (.un .bnot (.var 0))) (.un .bnot (.un .bnot (.var 5))))), (.bin .eq (.bin .sub (.var 4) (.var 9)) (.lit 0)), (.bin .lt (.bin .sub (.var 4) (.var 9)) (.lit 64)), (.bin .le (.bin .sub (.var 4) (.var 9)) (.lit 70)), (.bin .le (.var 9) (.var 4)), (.un .bnot (.bin .eq (.var 8) (.lit 0))), (.un .bnot (.bin .eq (.var 3) (.lit 0))), (.bin .le (.lit 0) (.var 3)), (.bin .le (.var 3) (.lit 9007199254740991)), (.bin .le (.lit (-1074)) (.var 4)), (.bin .le (.var 4) (.lit 971)), (.bin .le (.lit 0) (.var 8)), (.bin .le (.var 8) (.lit 9007199254740991)), (.bin .le (.lit (-1074)) (.var 9)), (.bin .le (.var 9) (.lit 971))], (.int .u64 (.bin .add (.ite (.un .bnot (.un .bnot (.var 0))) (.lit 9223372036854775808) (.lit 0)) (.fn 4 (.bin .add (.lit 0) (.un (.wrap .u64) (.bin .sub (.var 3) (.var 8)))) (.bin .sub (.var 4) (.bin .sub (.var 4) (.var 9))) (.lit 0))))),
  ([(.bin .lt (.un (.wrap .u64) (.bin .add (.bin (.shl .u64) (.var 3) (.bin .sub (.var 4) (.var 9))) (.var 8))) (.bin (.shl .u64) (.var 3) (.bin .sub (.var 4) (.var 9)))), (.bin .eq (.un .bnot (.un .bnot (.var 0))) (.un .bnot (.un .bnot (.var 5)))), (.un .bnot (.bin .eq (.bin .sub (.var 4) (.var 9)) (.lit 0))), (.bin .lt (.bin .sub (.var 4) (.var 9)) (.lit 64)), (.bin .le (.bin .sub (.var 4) (.var 9)) (.lit 70)), (.bin .le (.var 9) (.var 4)), (.un .bnot (.bin .eq (.var 8) (.lit 0))), (.un .bnot (.bin .eq (.var 3) (.lit 0))), (.bin .le (.lit 0) (.var 3)), (.bin .le (.var 3) (.lit 9007199254740991)), (.bin .le (.lit (-1074)) (.var 4)), (.bin .le (.var 4) (.lit 971)), (.bin .le (.lit 0) (.var 8)), (.bin .le (.var 8) (.lit 9007199254740991)), (.bin .le (.lit (-1074)) (.var 9)), (.bin .le (.var 9) (.lit 971))], (.int .u64 (.bin .add (.ite (.un .bnot (.un .bnot (.var 0))) (.lit 9223372036854775808) (.lit 0)) (.fn 4 (.bin .add (.bin .mul (.un (.wrap .u64) (.bin .add (.bin (.shr .u64) (.var 3) (.bin .sub (.lit 64) (.bin .sub (.var 4) (.var 9)))) (.lit 1))) (.lit 18446744073709551616)) (.un (.wrap .u64) (.bin .add (.bin (.shl .u64) (.var 3) (.bin .sub (.var 4) (.var 9))) (.var 8)))) (.bin .sub (.var 4) (.bin .sub (.var 4) (.var 9))) (.lit 0))))),
  ([(.bin .lt (.un (.wrap .u64) (.bin .add (.bin (.shl .u64) (.var 3) (.bin .sub (.var 4) (.var 9))) (.var 8))) (.un (.wrap .u64) (.bin .add (.bin (.shl .u64) (.var 3) (.bin .sub (.var 4) (.var 9))) (.var 8)))), (.bin .le (.bin (.shl .u64) (.var 3) (.bin .sub (.var 4) (.var 9))) (.un (.wrap .u64) (.bin .add (.bin (.shl .u64) (.var 3) (.bin .sub (.var 4) (.var 9))) (.var 8)))), (.bin .eq (.un .bnot (.un .bnot (.var 0))) (.un .bnot (.un .bnot (.var 5)))), (.un .bnot (.bin .eq (.bin .sub (.var 4) (.var 9)) (.lit 0))), (.bin .lt (.bin .sub (.var 4) (.var 9)) (.lit 64)), (.bin .le (.bin .sub (.var 4) (.var 9)) (.lit 70)), (.bin .le (.var 9) (.var 4)), (.un .bnot (.bin .eq (.var 8) (.lit 0))), (.un .bnot (.bin .eq (.var 3) (.lit 0))), (.bin .le (.lit 0) (.var 3)), (.bin .le (.var 3) (.lit 9007199254740991)), (.bin .le (.lit (-1074)) (.var 4)), (.bin .le (.var 4) (.lit 971)), (.bin .le (.lit 0) (.var 8)), (.bin .le (.var 8) (.lit 9007199254740991)), (.bin .le (.lit (-1074)) (.var 9)), (.bin .le (.var 9) (.lit 971))], (.int .u64 (.bin .add (.ite (.un .bnot (.un .bnot (.var 0))) (.lit 9223372036854775808) (.lit 0)) (.fn 4 (.bin .add (.bin .mul (.un (.wrap .u64) (.bin .add (.bin (.shr .u64) (.var 3) (.bin .sub (.lit 64) (.bin .sub (.var 4) (.var 9)))) (.lit 1))) (.lit 18446744073709551616)) (.un (.wrap .u64) (.bin .add (.bin (.shl .u64) (.var 3) (.bin .sub (.var 4) (.var 9))) (.var 8)))) (.bin .sub (.var 4) (.bin .sub (.var 4) (.var 9))) (.lit 0))))),
  ([(.bin .le (.un (.wrap .u64) (.bin .add (.bin (.shl .u64) (.var 3) (.bin .sub (.var 4) (.var 9))) (.var 8))) (.un (.wrap .u64) (.bin .add (.bin (.shl .u64) (.var 3) (.bin .sub (.var 4) (.var 9))) (.var 8)))), (.bin .le (.bin (.shl .u64) (.var 3) (.bin .sub (.var 4) (.var 9))) (.un (.wrap .u64) (.bin .add (.bin (.shl .u64) (.var 3) (.bin .sub (.var 4) (.var 9))) (.var 8)))), (.bin .eq (.un .bnot (.un .bnot (.var 0))) (.un .bnot (.un .bnot (.var 5)))), (.un .bnot (.bin .eq (.bin .sub (.var 4) (.var 9)) (.lit 0))), (.bin .lt (.bin .sub (.var 4) (.var 9)) (.lit 64)), (.bin .le (.bin .sub (.var 4) (.var 9)) (.lit 70)), (.bin .le (.var 9) (.var 4)), (.un .bnot (.bin .eq (.var 8) (.lit 0))), (.un .bnot (.bin .eq (.var 3) (.lit 0))), (.bin .le (.lit 0) (.var 3)), (.bin .le (.var 3) (.lit 9007199254740991)), (.bin .le (.lit (-1074)) (.var 4)), (.bin .le (.var 4) (.lit 971)), (.bin .le (.lit 0) (.var 8)), (.bin .le (.var 8) (.lit 9007199254740991)), (.bin .le (.lit (-1074)) (.var 9)), (.bin .le (.var 9) (.lit 971))], (.int .u64 (.bin .add (.ite (.un .bnot (.un .bnot (.var 0))) (.lit 9223372036854775808) (.lit 0)) (.fn 4 (.bin .add (.bin .mul (.un (.wrap .u64) (.bin (.shr .u64) (.var 3) (.bin .sub (.lit 64) (.bin .sub (.var 4) (.var 9))))) (.lit 18446744073709551616)) (.un (.wrap .u64) (.bin .add (.bin (.shl .u64) (.var 3) (.bin .sub (.var 4) (.var 9))) (.var 8)))) (.bin .sub (.var 4) (.bin .sub (.var 4) (.var 9))) (.lit 0))))),
  ([(.bin .lt (.bin (.shr .u64) (.var 3) (.bin .sub (.lit 64) (.bin .sub (.var 4) (.var 9)))) (.lit 0)), (.bin .lt (.bin (.shl .u64) (.var 3) (.bin .sub (.var 4) (.var 9))) (.var 8)), (.un .bnot (.bin .eq (.un .bnot (.un .bnot (.var 0))) (.un .bnot (.un .bnot (.var 5))))), (.un .bnot (.bin .eq (.bin .sub (.var 4) (.var 9)) (.lit 0))), (.bin .lt (.bin .sub (.var 4) (.var 9)) (.lit 64)), (.bin .le (.bin .sub (.var 4) (.var 9)) (.lit 70)), (.bin .le (.var 9) (.var 4)), (.un .bnot (.bin .eq (.var 8) (.lit 0))), (.un .bnot (.bin .eq (.var 3) (.lit 0))), (.bin .le (.lit 0) (.var 3)), (.bin .le (.var 3) (.lit 9007199254740991)), (.bin .le (.lit (-1074)) (.var 4)), (.bin .le (.var 4) (.lit 971)), (.bin .le (.lit 0) (.var 8)), (.bin .le (.var 8) (.lit 9007199254740991)), (.bin .le (.lit (-1074)) (.var 9)), (.bin .le (.var 9) (.lit 971))], (.int .u64 (.bin .add (.ite (.un .bnot (.un .bnot (.var 5))) (.lit 9223372036854775808) (.lit 0)) (.fn 4 (.bin .add (.lit 0) (.bin .sub (.var 8) (.bin (.shl .u64) (.var 3) (.bin .sub (.var 4) (.var 9))))) (.bin .sub (.var 4) (.bin .sub (.var 4) (.var 9))) (.lit 0))))),
  ([(.bin .lt (.un (.wrap .u64) (.bin (.shr .u64) (.var 3) (.bin .sub (.lit 64) (.bin .sub (.var 4) (.var 9))))) (.lit 1)), (.bin .le (.lit 0) (.bin (.shr .u64) (.var 3) (.bin .sub (.lit 64) (.bin .sub (.var 4) (.var 9))))), (.bin .lt (.bin (.shl .u64) (.var 3) (.bin .sub (.var 4) (.var 9))) (.var 8)), (.un .bnot (.bin .eq (.un .bnot (.un .bnot (.var 0))) (.un .bnot (.un .bnot (.var 5))))), (.un .bnot (.bin .eq (.bin .sub (.var 4) (.var 9)) (.lit 0))), (.bin .lt (.bin .sub (.var 4) (.var 9)) (.lit 64)), (.bin .le (.bin .sub (.var 4) (.var 9)) (.lit 70)), (.bin .le (.var 9) (.var 4)), (.un .bnot (.bin .eq (.var 8) (.lit 0))), (.un .bnot (.bin .eq (.var 3) (.lit 0))), (.bin .le (.lit 0) (.var 3)), (.bin .le (.var 3) (.lit 9007199254740991)), (.bin .le (.lit (-1074)) (.var 4)), (.bin .le (.var 4) (.lit 971)), (.bin .le (.lit 0) (.var 8)), (.bin .le (.var 8) (.lit 9007199254740991)), (.bin .le (.lit (-1074)) (.var 9)), (.bin .le (.var 9) (.lit 971))], (.int .u64 (.bin .add (.ite (.un .bnot (.un .bnot (.var 5))) (.lit 9223372036854775808) (.lit 0)) (.fn 4 (.bin .add (.lit 0) (.bin .sub (.var 8) (.bin (.shl .u64) (.var 3) (.bin .sub (.var 4) (.var 9))))) (.bin .sub (.var 4) (.bin .sub (.var 4) (.var 9))) (.lit 0))))),
  ([(.bin .eq (.bin (.bits .or .u64) (.un (.wrap .u64) (.bin .add (.un (.wrap .u64) (.bin (.shr .u64) (.var 3) (.bin .sub (.lit 64) (.bin .sub (.var 4) (.var 9))))) (.lit (-1)))) (.un (.wrap .u64) (.bin .sub (.bin (.shl .u64) (.var 3) (.bin .sub (.var 4) (.var 9))) (.var 8)))) (.lit 0)), (.bin .le (.lit 1) (.un (.wrap .u64) (.bin (.shr .u64) (.var 3) (.bin .sub (.lit 64) (.bin .sub (.var 4) (.var 9)))))), (.bin .le (.lit 0) (.bin (.shr .u64) (.var 3) (.bin .sub (.lit 64) (.bin .sub (.var 4) (.var 9))))), (.bin .lt (.bin (.shl .u64) (.var 3) (.bin .sub (.var 4) (.var 9))) (.var 8)), (.un .bnot (.bin .eq (.un .bnot (.un .bnot (.var 0))) (.un .bnot (.un .bnot (.var 5))))), (.un .bnot (.bin .eq (.bin .sub (.var 4) (.var 9)) (.lit 0))), (.bin .lt (.bin .sub (.var 4) (.var 9)) (.lit 64)), (.bin .le (.bin .sub (.var 4) (.var 9)) (.lit 70)), (.bin .le (.var 9) (.var 4)), (.un .bnot (.bin .eq (.var 8) (.lit 0))), (.un .bnot (.bin .eq (.var 3) (.lit 0))), (.bin .le (.lit 0) (.var 3)), (.bin .le (.var 3) (.lit 9007199254740991)), (.bin .le (.lit (-1074)) (.var 4)), (.bin .le (.var 4) (.lit 971)), (.bin .le (.lit 0) (.var 8)), (.bin .le (.var 8) (.lit 9007199254740991)), (.bin .le (.lit (-1074)) (.var 9)), (.bin .le (.var 9) (.lit 971))], (.int .u64 (.ite (.un .bnot (.un .bnot (.lit 0))) (.lit 9223372036854775808) (.lit 0)))),
  ([(.un .bnot (.bin .eq (.bin (.bits .or .u64) (.un (.wrap .u64) (.bin .add (.un (.wrap .u64) (.bin (.shr .u64) (.var 3) (.bin .sub (.lit 64) (.bin .sub (.var 4) (.var 9))))) (.lit (-1)))) (.un (.wrap .u64) (.bin .sub (.bin (.shl .u64) (.var 3) (.bin .sub (.var 4) (.var 9))) (.var 8)))) (.lit 0))), (.bin .le (.lit 1) (.un (.wrap .u64) (.bin (.shr .u64) (.var 3) (.bin .sub (.lit 64) (.bin .sub (.var 4) (.var 9)))))), (.bin .le (.lit 0) (.bin (.shr .u64) (.var 3) (.bin .sub (.lit 64) (.bin .sub (.var 4) (.var 9))))), (.bin .lt (.bin (.shl .u64) (.var 3) (.bin .sub (.var 4) (.var 9))) (.var 8)), (.un .bnot (.bin .eq (.un .bnot (.un .bnot (.var 0))) (.un .bnot (.un .bnot (.var 5))))), (.un .bnot (.bin .eq (.bin .sub (.var 4) (.var 9)) (.lit 0))), (.bin .lt (.bin .sub (.var 4) (.var 9)) (.lit 64)), (.bin .le (.bin .sub (.var 4) (.var 9)) (.lit 70)), (.bin .le (.var 9) (.var 4)), (.un .bnot (.bin .eq (.var 8) (.lit 0))), (.un .bnot (.bin .eq (.var 3) (.lit 0))), (.bin .le (.lit 0) (.var 3)), (.bin .le (.var 3) (.lit 9007199254740991)), (.bin .le (.lit (-1074)) (.var 4)), (.bin .le (.var 4) (.lit 971)), (.bin .le (.lit 0) (.var 8)), (.bin .le (.var 8) (.lit 9007199254740991)), (.bin .le (.lit (-1074)) (.var 9)), (.bin .le (.var 9) (.lit 971))], (.int .u64 (.bin .add (.ite (.un .bnot (.un .bnot (.var 0))) (.lit 9223372036854775808) (.lit 0)) (.fn 4 (.bin .add (.bin .mul (.un (.wrap .u64) (.bin .add (.un (.wrap .u64) (.bin (.shr .u64) (.var 3) (.bin .sub (.lit 64) (.bin .sub (.var 4) (.var 9))))) (.lit (-1)))) (.lit 18446744073709551616)) (.un (.wrap .u64) (.bin .sub (.bin (.shl .u64) (.var 3) (.bin .sub (.var 4) (.var 9))) (.var 8)))) (.bin .sub (.var 4) (.bin .sub (.var 4) (.var 9))) (.lit 0))))),
  ([(.bin .lt (.bin (.shr .u64) (.var 3) (.bin .sub (.lit 64) (.bin .sub (.var 4) (.var 9)))) (.lit 0)), (.bin .le (.var 8) (.bin (.shl .u64) (.var 3) (.bin .sub (.var 4) (.var 9)))), (.un .bnot (.bin .eq (.un .bnot (.un .bnot (.var 0))) (.un .bnot (.un .bnot (.var 5))))), (.un .bnot (.bin .eq (.bin .sub (.var 4) (.var 9)) (.lit 0))), (.bin .lt (.bin .sub (.var 4) (.var 9)) (.lit 64)), (.bin .le (.bin .sub (.var 4) (.var 9)) (.lit 70)), (.bin .le (.var 9) (.var 4)), (.un .bnot (.bin .eq (.var 8) (.lit 0))), (.un .bnot (.bin .eq (.var 3) (.lit 0))), (.bin .le (.lit 0) (.var 3)), (.bin .le (.var 3) (.lit 9007199254740991)), (.bin .le (.lit (-1074)) (.var 4)), (.bin .le (.var 4) (.lit 971)), (.bin .le (.lit 0) (.var 8)), (.bin .le (.var 8) (.lit 9007199254740991)), (.bin .le (.lit (-1074)) (.var 9)), (.bin .le (.var 9) (.lit 971))], (.int .u64 (.bin .add (.ite (.un .bnot (.un .bnot (.var 5))) (.lit 9223372036854775808) (.lit 0)) (.fn 4 (.bin .add (.lit 0) (.un (.wrap .u64) (.bin .sub (.var 8) (.bin (.shl .u64) (.var 3) (.bin .sub (.var 4) (.var 9)))))) (.bin .sub (.var 4) (.bin .sub (.var 4) (.var 9))) (.lit 0))))),
  ([(.bin .eq (.bin (.bits .or .u64) (.un (.wrap .u64) (.bin (.shr .u64) (.var 3) (.bin .sub (.lit 64) (.bin .sub (.var 4) (.var 9))))) (.un (.wrap .u64) (.bin .sub (.bin (.shl .u64) (.var 3) (.bin .sub (.var 4) (.var 9))) (.var 8)))) (.lit 0)), (.bin .le (.lit 0) (.bin (.shr .u64) (.var 3) (.bin .sub (.lit 64) (.bin .sub (.var 4) (.var 9))))), (.bin .le (.var 8) (.bin (.shl .u64) (.var 3) (.bin .sub (.var 4) (.var 9)))), (.un .bnot (.bin .eq (.un .bnot (.un .bnot (.var 0))) (.un .bnot (.un .bnot (.var 5))))), (.un .bnot (.bin .eq (.bin .sub (.var 4) (.var 9)) (.lit 0))), (.bin .lt (.bin .sub (.var 4) (.var 9)) (.lit 64)), (.bin .le (.bin .sub (.var 4) (.var 9)) (.lit 70)), (.bin .le (.var 9) (.var 4)), (.un .bnot (.bin .eq (.var 8) (.lit 0))), (.un .bnot (.bin .eq (.var 3) (.lit 0))), (.bin .le (.lit 0) (.var 3)), (.bin .le (.var 3) (.lit 9007199254740991)), (.bin .le (.lit (-1074)) (.var 4)), (.bin .le (.var 4) (.lit 971)), (.bin .le (.lit 0) (.var 8)), (.bin .le (.var 8) (.lit 9007199254740991)), (.bin .le (.lit (-1074)) (.var 9)), (.bin .le (.var 9) (.lit 971))], (.int .u64 (.ite (.un .bnot (.un .bnot (.lit 0))) (.lit 9223372036854775808) (.lit 0)))),
  ([(.un .bnot (.bin .eq (.bin (.bits .or .u64) (.un (.wrap .u64) (.bin (.shr .u64) (.var 3) (.bin .sub (.lit 64) (.bin .sub (.var 4) (.var 9))))) (.un (.wrap .u64) (.bin .sub (.bin (.shl .u64) (.var 3) (.bin .sub (.var 4) (.var 9))) (.var 8)))) (.lit 0))), (.bin .le (.lit 0) (.bin (.shr .u64) (.var 3) (.bin .sub (.lit 64) (.bin .sub (.var 4) (.var 9))))), (.bin .le (.var 8) (.bin (.shl .u64) (.var 3) (.bin .sub (.var 4) (.var 9)))), (.un .bnot (.bin .eq (.un .bnot (.un .bnot (.var 0))) (.un .bnot (.un .bnot (.var 5))))), (.un .bnot (.bin .eq (.bin .sub (.var 4) (.var 9)) (.lit 0))), (.bin .lt (.bin .sub (.var 4) (.var 9)) (.lit 64)), (.bin .le (.bin .sub (.var 4) (.var 9)) (.lit 70)), (.bin .le (.var 9) (.var 4)), (.un .bnot (.bin .eq (.var 8) (.lit 0))), (.un .bnot (.bin .eq (.var 3) (.lit 0))), (.bin .le (.lit 0) (.var 3)), (.bin .le (.var 3) (.lit 9007199254740991)), (.bin .le (.lit (-1074)) (.var 4)), (.bin .le (.var 4) (.lit 971)), (.bin .le (.lit 0) (.var 8)), (.bin .le (.var 8) (.lit 9007199254740991)), (.bin .le (.lit (-1074)) (.var 9)), (.bin .le (.var 9) (.lit 971))], (.int .u64 (.bin .add (.ite (.un .bnot (.un .bnot (.var 0))) (.lit 9223372036854775808) (.lit 0)) (.fn 4 (.bin .add (.bin .mul (.un (.wrap .u64) (.bin (.shr .u64) (.var 3) (.bin .sub (.lit 64) (.bin .sub (.var 4) (.var 9))))) (.lit 18446744073709551616)) (.un (.wrap .u64) (.bin .sub (.bin (.shl .u64) (.var 3) (.bin .sub (.var 4) (.var 9))) (.var 8)))) (.bin .sub (.var 4) (.bin .sub (.var 4) (.var 9))) (.lit 0))))),
  ([(.bin .lt (.bin .add (.var 3) (.var 8)) (.var 3)), (.bin .eq (.un .bnot (.un .bnot (.var 0))) (.un .bnot (.un .bnot (.var 5)))), (.bin .eq (.var 8) (.lit 0)), (.un .bnot (.bin .eq (.var 3) (.lit 0))), (.bin .le (.lit 0) (.var 3)), (.bin .le (.var 3) (.lit 9007199254740991)), (.bin .le (.lit (-1074)) (.var 4)), (.bin .le (.var 4) (.lit 971)), (.bin .le (.lit 0) (.var 8)), (.bin .le (.var 8) (.lit 9007199254740991)), (.bin .le (.lit (-1074)) (.var 9)), (.bin .le (.var 9) (.lit 971))], (.int .u64 (.bin .add (.ite (.un .bnot (.un .bnot (.var 0))) (.lit 9223372036854775808) (.lit 0)) (.fn 4 (.bin .add (.lit 18446744073709551616) (.bin .add (.var 3) (.var 8))) (.var 4) (.lit 0))))),
  ([(.bin .lt (.bin .add (.var 3) (.var 8)) (.bin .add (.var 3) (.var 8))), (.bin .le (.var 3) (.bin .add (.var 3) (.var 8))), (.bin .eq (.un .bnot (.un .bnot (.var 0))) (.un .bnot (.un .bnot (.var 5)))), (.bin .eq (.var 8) (.lit 0)), (.un .bnot (.bin .eq (.var 3) (.lit 0))), (.bin .le (.lit 0) (.var 3)), (.bin .le (.var 3) (.lit 9007199254740991)), (.bin .le (.lit (-1074)) (.var 4)), (.bin .le (.var 4) (.lit 971)), (.bin .le (.lit 0) (.var 8)), (.bin .le (.var 8) (.lit 9007199254740991)), (.bin .le (.lit (-1074)) (.var 9)), (.bin .le (.var 9) (.lit 971))], (.int .u64 (.bin .add (.ite (.un .bnot (.un .bnot (.var 0))) (.lit 9223372036854775808) (.lit 0)) (.fn 4 (.bin .add (.lit 18446744073709551616) (.bin .add (.var 3) (.var 8))) (.var 4) (.lit 0))))),
  ([(.bin .le (.bin .add (.var 3) (.var 8)) (.bin .add (.var 3) (.var 8))), (.bin .le (.var 3) (.bin .add (.var 3) (.var 8))), (.bin .eq (.un .bnot (.un .bnot (.var 0))) (.un .bnot (.un .bnot (.var 5)))), (.bin .eq (.var 8) (.lit 0)), (.un .bnot (.bin .eq (.var 3) (.lit 0))), (.bin .le (.lit 0) (.var 3)), (.bin .le (.var 3) (.lit 9007199254740991)), (.bin .le (.lit (-1074)) (.var 4)), (.bin .le (.var 4) (.lit 971)), (.bin .le (.lit 0) (.var 8)), (.bin .le (.var 8) (.lit 9007199254740991)), (.bin .le (.lit (-1074)) (.var 9)), (.bin .le (.var 9) (.lit 971))], (.int .u64 (.bin .add (.ite (.un .bnot (.un .bnot (.var 0))) (.lit 9223372036854775808) (.lit 0)) (.fn 4 (.bin .add (.lit 0) (.bin .add (.var 3) (.var 8))) (.var 4) (.lit 0))))),
  ([(.bin .eq (.bin (.bits .or .u64) (.lit 0) (.bin .sub (.var 3) (.var 8))) (.lit 0)), (.un .bnot (.bin .eq (.un .bnot (.un .bnot (.var 0))) (.un .bnot (.un .bnot (.var 5))))), (.bin .eq (.var 8) (.lit 0)), (.un .bnot (.bin .eq (.var 3) (.lit 0))), (.bin .le (.lit 0) (.var 3)), (.bin .le (.var 3) (.lit 9007199254740991)), (.bin .le (.lit (-1074)) (.var 4)), (.bin .le (.var 4) (.lit 971)), (.bin .le (.lit 0) (.var 8)), (.bin .le (.var 8) (.lit 9007199254740991)), (.bin .le (.lit (-1074)) (.var 9)), (.bin .le (.var 9) (.lit 971))], (.int .u64 (.ite (.un .bnot (.un .bnot (.lit 0))) (.lit 9223372036854775808) (.lit 0)))),
  ([(.un .bnot (.bin .eq (.bin (.bits .or .u64) (.lit 0) (.bin .sub (.var 3) (.var 8))) (.lit 0))), (.un .bnot (.bin .eq (.un .bnot (.un .bnot (.var 0))) (.un .bnot (.un .bnot (.var 5))))), (.bin .eq (.var 8) (.lit 0)), (.un .bnot (.bin .eq (.var 3) (.lit 0))), (.bin .le (.lit 0) (.var 3)), (.bin .le (.var 3) (.lit 9007199254740991)), (.bin .le (.lit (-1074)) (.var 4)), (.bin .le (.var 4) (.lit 971)), (.bin .le (.lit 0) (.var 8)), (.bin .le (.var 8) (.lit 9007199254740991)), (.bin .le (.lit (-1074)) (.var 9)), (.bin .le (.var 9) (.lit 971))], (.int .u64 (.bin .add (.ite (.un .bnot (.un .bnot (.var 0))) (.lit 9223372036854775808) (.lit 0)) (.fn 4 (.bin .add (.lit 0) (.bin .sub (.var 3) (.var 8))) (.var 4) (.lit 0)))))]
set_option maxRecDepth 100000 in
theorem addDRan : runOfG Try.prog (gOracle (gsD0 ++ [rndD])) noLoops (bodies fns) [] 4000 addD = some addDR := by kernel_rfl
end Go.Proofs.Ytnodelimomljbaa.RunRefC

/- Rounding does not fall as the number grows; a rung's own value is rounded to it. No condition. -/
namespace Go.Sx
open Ieee

theorem log2_le {m n : Nat} (h : m ≤ n) : m.log2 ≤ n.log2 := by
  by_cases h0 : m = 0
  · subst h0; simp
  · have h1 := Nat.log2_self_le h0
    exact (Nat.le_log2 (by omega)).2 (Nat.le_trans h1 h)
theorem kept_le {m n : Nat} (e l : Int) (h : m ≤ n) : kept m e l ≤ kept n e l := by
  unfold kept
  refine rne_le _ ?_
  rw [Nat.shiftLeft_eq, Nat.shiftLeft_eq]
  exact Nat.mul_le_mul_right _ h
theorem kept_pow {a b : Nat} {e l : Int} (h : (b : Int) = a + e - l) : kept (2 ^ a) e l = 2 ^ b := by
  unfold kept
  rw [Nat.shiftLeft_eq]
  by_cases h1 : 0 ≤ e - l
  · have d : (l - e).toNat = 0 := by omega
    rw [d, rne_zero, ← Nat.pow_add]; congr 1; omega
  · have d : (e - l).toNat = 0 := by omega
    have d2 : (l - e).toNat = 0 + (l - e).toNat := by omega
    rw [d, Nat.pow_zero, Nat.mul_one, d2]
    have : 2 ^ a = 2 ^ b * 2 ^ (l - e).toNat := by rw [← Nat.pow_add]; congr 1; omega
    rw [this, rne_scale, rne_zero]
theorem rne_small' {n d : Nat} (h : 2 * n ≤ 2 ^ d) : rne n d ≤ 1 := by
  unfold rne
  have h0 : 0 < 2 ^ d := Nat.two_pow_pos d
  have h1 : n / 2 ^ d = 0 := Nat.div_eq_of_lt (by omega)
  rw [h1]; split <;> omega
theorem rung_mono (f : Format) {m n : Nat} (e : Int) (h : m ≤ n) : rungOf f m e ≤ rungOf f n e := by
  by_cases h0 : m = 0
  · subst h0; unfold rungOf; simp
  · have hn0 : n ≠ 0 := by omega
    have hb := binade_pos f
    have eb : f.binade = 2 ^ f.fractionBits := rfl
    have hlog := log2_le h
    unfold rungOf
    rw [if_neg h0, if_neg hn0]
    refine Nat.le_min.2 ⟨Nat.le_trans (Nat.min_le_left _ _) ?_, Nat.min_le_right _ _⟩
    have hL : lastP f m e ≤ lastP f n e := by unfold lastP; omega
    have hge : f.leastPlace ≤ lastP f m e := by unfold lastP; omega
    by_cases he : lastP f m e = lastP f n e
    · rw [he]
      exact Nat.add_le_add_left (kept_le _ _ h) _
    · have hlt : lastP f m e < lastP f n e := by omega
      have hn : lastP f n e = e + n.log2 - f.fractionBits := by unfold lastP at hlt hge ⊢; omega
      have hm : e + m.log2 - f.fractionBits ≤ lastP f m e := by unfold lastP; omega
      have k1 : f.binade ≤ kept n e (lastP f n e) := by
        have := kept_le e (lastP f n e) (Nat.log2_self_le hn0)
        rw [kept_pow (b := f.fractionBits) (by omega)] at this
        rw [eb]; exact this
      have k2 : kept m e (lastP f m e) ≤ 2 * f.binade := by
        have h2 : m ≤ 2 ^ (m.log2 + 1) := Nat.le_of_lt Nat.lt_log2_self
        refine Nat.le_trans (kept_le e (lastP f m e) h2) ?_
        have e2 : 2 * f.binade = 2 ^ (f.fractionBits + 1) := by rw [eb, Nat.pow_succ]; omega
        rw [e2]
        by_cases hs : lastP f m e ≤ (m.log2 + 1 : Nat) + e
        · obtain ⟨b, hb1⟩ : ∃ b : Nat, (b : Int) = (m.log2 + 1 : Nat) + e - lastP f m e := ⟨((m.log2 + 1 : Nat) + e - lastP f m e).toNat, by omega⟩
          rw [kept_pow hb1]
          exact Nat.pow_le_pow_right (by decide) (by omega)
        · unfold kept
          have d : (e - lastP f m e).toNat = 0 := by omega
          rw [d, Nat.shiftLeft_zero]
          have : 2 * 2 ^ (m.log2 + 1) ≤ 2 ^ (lastP f m e - e).toNat := by
            rw [← Nat.pow_succ']
            exact Nat.pow_le_pow_right (by decide) (by omega)
          have h1 := rne_small' this
          have h3 : 1 ≤ 2 ^ (f.fractionBits + 1) := Nat.one_le_two_pow
          omega
      obtain ⟨p, hp⟩ : ∃ p : Nat, (lastP f m e - f.leastPlace).toNat = p := ⟨_, rfl⟩
      obtain ⟨q, hq⟩ : ∃ q : Nat, (lastP f n e - f.leastPlace).toNat = q := ⟨_, rfl⟩
      rw [hp, hq]
      have hpq : p + 1 ≤ q := by omega
      have h3 : (p + 1) * f.binade ≤ q * f.binade := Nat.mul_le_mul_right _ hpq
      rw [Nat.succ_mul] at h3
      omega
/-- a rung's value, in finer units -/
theorem rung_val (f : Format) {r : Nat} (h : r ≤ f.infRung) (d : Nat) : rungOf f (val f r * 2 ^ d) (f.leastPlace - d) = r := by
  rw [rung_scale]
  have h1 := place_ge f r
  unfold val
  have := rung_scale f (magOf f r) (placeOf f r - f.leastPlace).toNat (placeOf f r)
  rw [show placeOf f r - ((placeOf f r - f.leastPlace).toNat : Nat) = f.leastPlace by omega] at this
  rw [this]
  exact rung_back f h
theorem rung_le (f : Format) (n : Nat) (e : Int) : rungOf f n e ≤ f.infRung := by
  unfold rungOf; split
  · omega
  · exact Nat.min_le_right _ _
theorem le_rung (f : Format) {r n d : Nat} (h : r ≤ f.infRung) (hv : val f r * 2 ^ d ≤ n) : r ≤ rungOf f n (f.leastPlace - d) := by
  have := rung_mono f (f.leastPlace - d) hv
  rwa [rung_val f h] at this
theorem rung_le_of (f : Format) {r n d : Nat} (h : r ≤ f.infRung) (hv : n ≤ val f r * 2 ^ d) : rungOf f n (f.leastPlace - d) ≤ r := by
  have := rung_mono f (f.leastPlace - d) hv
  rwa [rung_val f h] at this
end Go.Sx

/- The reference's sums: the rules by which a leaf is judged. No condition. -/
namespace Go.Sx.Ref
set_option linter.unusedVariables false
open Go Go.Sx Go.Sx.Flt Ieee
/-- a choice that no instance hangs on -/
noncomputable def iteP (p : Prop) (a b : Int) : Int := @ite _ p (Classical.propDecidable p) a b
theorem iteP_pos {p : Prop} (h : p) (a b : Int) : iteP p a b = a := by unfold iteP; rw [if_pos h]
theorem iteP_neg {p : Prop} (h : ¬ p) (a b : Int) : iteP p a b = b := by unfold iteP; rw [if_neg h]
theorem iteP_true (a b : Int) : iteP True a b = a := iteP_pos trivial a b
theorem iteP_false (a b : Int) : iteP False a b = b := iteP_neg (fun h => h) a b
theorem iteP_in {p : Prop} {a b l h : Int} (h1 : p → l ≤ a ∧ a ≤ h) (h2 : ¬ p → l ≤ b ∧ b ≤ h) : l ≤ iteP p a b ∧ iteP p a b ≤ h := by
  by_cases g : p
  · rw [iteP_pos g]; exact h1 g
  · rw [iteP_neg g]; exact h2 g
theorem den_iteP (ρ : Env) (c a b : E) : (E.ite c a b).den ρ = iteP (c.prop ρ) (a.den ρ) (b.den ρ) := by
  unfold iteP
  simp only [E.den]
  by_cases h : c.prop ρ
  · rw [if_pos h, if_pos ((E.prop_iff _ _).1 h)]
  · rw [if_neg h, if_neg fun g => h ((E.prop_iff _ _).2 g)]
theorem den_leP (ρ : Env) (a b : E) : (E.bin .le a b).den ρ = iteP (a.den ρ ≤ b.den ρ) 1 0 := by
  by_cases h : a.den ρ ≤ b.den ρ
  · rw [iteP_pos h]; simp [E.den, Bi.den, h, b2i]
  · rw [iteP_neg h]; simp [E.den, Bi.den, h, b2i]
theorem den_ltP (ρ : Env) (a b : E) : (E.bin .lt a b).den ρ = iteP (a.den ρ < b.den ρ) 1 0 := by
  by_cases h : a.den ρ < b.den ρ
  · rw [iteP_pos h]; simp [E.den, Bi.den, h, b2i]
  · rw [iteP_neg h]; simp [E.den, Bi.den, h, b2i]
theorem den_eqP (ρ : Env) (a b : E) : (E.bin .eq a b).den ρ = iteP (a.den ρ = b.den ρ) 1 0 := by
  by_cases h : a.den ρ = b.den ρ
  · rw [iteP_pos h]; simp [E.den, Bi.den, h, b2i]
  · rw [iteP_neg h]; simp [E.den, Bi.den, h, b2i]
theorem fn4 (N e : Int) : fnG 4 N e 0 = ((rungOf Ieee.double N.toNat e : Nat) : Int) := rfl
theorem fn4_in (N e : Int) : 0 ≤ fnG 4 N e 0 ∧ fnG 4 N e 0 ≤ 9218868437227405312 := by
  rw [fn4]
  have := rung_le Ieee.double N.toNat e
  have h : Ieee.double.infRung = 9218868437227405312 := by decide
  omega
theorem pk_of {m e : Int} (hm : 0 ≤ m) (he : -2048 ≤ e ∧ e < 2048) : mOf (m * 4096 + (e + 2048)) = m.toNat ∧ eOf (m * 4096 + (e + 2048)) = e := by
  unfold mOf eOf; omega
theorem sW : Ieee.double.signWeight = 9223372036854775808 := by decide
theorem word_in (neg : Bool) (N : Nat) (e : Int) : 0 ≤ wordI Ieee.double neg (rungOf Ieee.double N e) ∧ wordI Ieee.double neg (rungOf Ieee.double N e) ≤ 18446744073709551615 := by
  have := rung_le Ieee.double N e
  have h : Ieee.double.infRung = 9218868437227405312 := by decide
  unfold wordI
  rw [sW]
  split <;> omega
theorem word_zero' (neg : Bool) : 0 ≤ wordI Ieee.double neg 0 ∧ wordI Ieee.double neg 0 ≤ 18446744073709551615 := by
  unfold wordI
  rw [sW]
  split <;> omega
theorem sumO_in (na : Bool) (ma : Nat) (ea : Int) (nb : Bool) (mb : Nat) (eb : Int) : 0 ≤ sumO Ieee.double na ma ea nb mb eb ∧ sumO Ieee.double na ma ea nb mb eb ≤ 18446744073709551615 := by
  unfold sumO
  simp only
  repeat' split
  all_goals first | exact word_in _ _ _ | omega
theorem sumC_in (na : Bool) (ma : Nat) (ea : Int) (nb : Bool) (mb : Nat) (eb : Int) : 0 ≤ sumC Ieee.double na ma ea nb mb eb ∧ sumC Ieee.double na ma ea nb mb eb ≤ 18446744073709551615 := by
  unfold sumC
  split
  · exact word_zero' _
  · split <;> exact sumO_in _ _ _ _ _ _
theorem fn6_in (x y c : Int) : 0 ≤ fnG 6 x y c ∧ fnG 6 x y c ≤ 18446744073709551615 := sumC_in _ _ _ _ _ _
theorem fn6 {x X ex y Y ey : Int} (hx : x = 0 ∨ x = 1) (hy : y = 0 ∨ y = 1) (hX : 0 ≤ X) (hY : 0 ≤ Y) (h1 : -2048 ≤ ex ∧ ex < 2048) (h2 : -2048 ≤ ey ∧ ey < 2048) :
    fnG 6 (X * 4096 + (ex + 2048)) (Y * 4096 + (ey + 2048)) (x * 2 + y) = sumC Ieee.double (x == 1) X.toNat ex (y == 1) Y.toNat ey := by
  show sumC _ _ _ _ _ _ _ = _
  rw [(pk_of hX h1).1, (pk_of hX h1).2, (pk_of hY h2).1, (pk_of hY h2).2]
  have e1 : ((x * 2 + y) / 2 == 1) = (x == 1) := by rcases hx with rfl | rfl <;> rcases hy with rfl | rfl <;> rfl
  have e2 : ((x * 2 + y) % 2 == 1) = (y == 1) := by rcases hx with rfl | rfl <;> rcases hy with rfl | rfl <;> rfl
  rw [e1, e2]
def sgn (x : Int) : Int := if x ≠ 0 then 9223372036854775808 else 0
theorem word_sgn {x : Int} (hx : x = 0 ∨ x = 1) (r : Nat) : wordI Ieee.double (x == 1) r = sgn x + r := by
  rcases hx with rfl | rfl <;> simp [wordI, sgn, sW]
theorem sumC_z {x X ex y Y ey : Int} (hx : x = 0 ∨ x = 1) (hy : y = 0 ∨ y = 1) (h1 : X = 0) (h2 : Y = 0) : sumC Ieee.double (x == 1) X.toNat ex (y == 1) Y.toNat ey = if x ≠ 0 then sgn y else 0 := by
  subst h1 h2
  unfold sumC
  rw [if_pos ⟨rfl, rfl⟩]
  rcases hx with rfl | rfl <;> rcases hy with rfl | rfl <;> simp [wordI, sW, sgn]
theorem sumC_ab {x X ex y Y ey : Int} (hX : 0 ≤ X) (hY : 0 ≤ Y) (h1 : X ≠ 0) (h2 : Y = 0 ∨ ey ≤ ex) : sumC Ieee.double (x == 1) X.toNat ex (y == 1) Y.toNat ey = sumO Ieee.double (x == 1) X.toNat ex (y == 1) Y.toNat ey := by
  unfold sumC
  rw [if_neg (by omega), if_neg (by omega)]
theorem sumC_ba {x X ex y Y ey : Int} (hX : 0 ≤ X) (hY : 0 ≤ Y) (h0 : Y ≠ 0) (h1 : X = 0 ∨ ex < ey) : sumC Ieee.double (x == 1) X.toNat ex (y == 1) Y.toNat ey = sumO Ieee.double (y == 1) Y.toNat ey (x == 1) X.toNat ex := by
  unfold sumC
  rw [if_neg (by omega), if_pos (by omega)]
structure Rules (V x y A m e : Int) : Prop where
  same : x = y → ∀ N e', N = A + m → e' = e → V = sgn x + fnG 4 N e' 0
  less : x ≠ y → A < m → ∀ N e', N = m - A → e' = e → V = sgn y + fnG 4 N e' 0
  null : x ≠ y → A = m → V = 0
  more : x ≠ y → m < A → ∀ N e', N = A - m → e' = e → V = sgn x + fnG 4 N e' 0
theorem rules_of {x X ex y V : Int} {k m : Nat} (hx : x = 0 ∨ x = 1) (hy : y = 0 ∨ y = 1)
    (h : V = if (x == 1) = (y == 1) then wordI Ieee.double (x == 1) (rungOf Ieee.double (X.toNat * 2 ^ k + m) (ex - k))
      else if X.toNat * 2 ^ k < m then wordI Ieee.double (y == 1) (rungOf Ieee.double (m - X.toNat * 2 ^ k) (ex - k))
      else if X.toNat * 2 ^ k = m then 0 else wordI Ieee.double (x == 1) (rungOf Ieee.double (X.toNat * 2 ^ k - m) (ex - k))) :
    Rules V x y ((X.toNat * 2 ^ k : Nat) : Int) m (ex - k) := by
  have hb : ((x == 1) = (y == 1)) ↔ x = y := by rcases hx with rfl | rfl <;> rcases hy with rfl | rfl <;> simp
  generalize X.toNat * 2 ^ k = A at h
  refine ⟨fun hs N e' hN he => ?_, fun hs hlt N e' hN he => ?_, fun hs heq => ?_, fun hs hlt N e' hN he => ?_⟩
  · rw [h, if_pos (hb.2 hs), word_sgn hx, fn4, he, show N.toNat = A + m by omega]
  · rw [h, if_neg (fun q => hs (hb.1 q)), if_pos (by omega), word_sgn hy, fn4, he, show N.toNat = m - A by omega]
  · rw [h, if_neg (fun q => hs (hb.1 q)), if_neg (by omega), if_pos (by omega)]
  · rw [h, if_neg (fun q => hs (hb.1 q)), if_neg (by omega), if_neg (by omega), word_sgn hx, fn4, he, show N.toNat = A - m by omega]
theorem pow_int {X : Int} (hX : 0 ≤ X) (k : Nat) : ((X.toNat * 2 ^ k : Nat) : Int) = X * 2 ^ k := by
  rw [Int.natCast_mul, Int.natCast_pow, Int.toNat_of_nonneg hX]; rfl
theorem rules_zero {x X ex y Y ey : Int} (hx : x = 0 ∨ x = 1) (hy : y = 0 ∨ y = 1) (hX : 0 ≤ X) (hY : Y = 0) :
    Rules (sumO Ieee.double (x == 1) X.toNat ex (y == 1) Y.toNat ey) x y X 0 ex := by
  have h := rules_of (X := X) (ex := ex) (k := 0) (m := 0) (V := sumO Ieee.double (x == 1) X.toNat ex (y == 1) Y.toNat ey) hx hy (by subst hY; simp [sumO])
  rw [pow_int hX] at h
  simpa using h
theorem rules_near {x X ex y Y ey : Int} (hx : x = 0 ∨ x = 1) (hy : y = 0 ∨ y = 1) (hX : 0 ≤ X) (hY : 0 < Y) (h0 : 0 ≤ ex - ey) (h1 : ex - ey ≤ 70) :
    Rules (sumO Ieee.double (x == 1) X.toNat ex (y == 1) Y.toNat ey) x y (X * 2 ^ (ex - ey).toNat) Y (ex - (ex - ey)) := by
  have h := rules_of (X := X) (ex := ex) (k := (ex - ey).toNat) (m := Y.toNat) (V := sumO Ieee.double (x == 1) X.toNat ex (y == 1) Y.toNat ey) hx hy (by
    have e1 : ¬ Y.toNat = 0 := by omega
    have e2 : ¬ (70 < ex - ey) := by omega
    simp only [sumO, e1, e2, and_false, decide_false, if_false, Bool.false_eq_true])
  rw [pow_int hX, Int.toNat_of_nonneg h0, Int.toNat_of_nonneg (by omega)] at h
  exact h
theorem rules_far {x X ex y Y ey : Int} (hx : x = 0 ∨ x = 1) (hy : y = 0 ∨ y = 1) (hX : 0 ≤ X) (hY : 0 < Y) (h1 : 70 < ex - ey) :
    Rules (sumO Ieee.double (x == 1) X.toNat ex (y == 1) Y.toNat ey) x y (X * 2 ^ 70) 1 (ex - 70) := by
  have h := rules_of (X := X) (ex := ex) (k := 70) (m := 1) (V := sumO Ieee.double (x == 1) X.toNat ex (y == 1) Y.toNat ey) hx hy (by
    have e1 : ¬ Y.toNat = 0 := by omega
    simp only [sumO, e1, h1, ne_eq, not_false_eq_true, and_self, decide_true, if_true, if_false])
  rw [pow_int hX] at h
  exact h
/-- a number shifted up, in two words -/
theorem up_big {X d : Int} (hX : 0 ≤ X ∧ X ≤ 9007199254740991) (h1 : 64 ≤ d) (h2 : d ≤ 70) :
    (X * 2 ^ min (d + -64).toNat 64) % 18446744073709551616 * 18446744073709551616 = X * 2 ^ d.toNat ∧ 0 ≤ (X * 2 ^ min (d + -64).toNat 64) % 18446744073709551616 ∧ (X * 2 ^ min (d + -64).toNat 64) % 18446744073709551616 ≤ 1152921504606846976 := by
  obtain ⟨k, hk⟩ : ∃ k : Nat, d = k + 64 := ⟨(d - 64).toNat, by omega⟩
  subst hk
  have e1 : min (((k : Int) + 64 + -64).toNat) 64 = k := by omega
  have e2 : ((k : Int) + 64).toNat = k + 64 := by omega
  rw [e1, e2, Int.pow_add]
  have hp : (2 : Int) ^ k ≤ 64 := by
    have : k = 0 ∨ k = 1 ∨ k = 2 ∨ k = 3 ∨ k = 4 ∨ k = 5 ∨ k = 6 := by omega
    rcases this with rfl | rfl | rfl | rfl | rfl | rfl | rfl <;> decide
  have hp0 : (0 : Int) < 2 ^ k := Int.pow_pos (by decide)
  have hm : X * 2 ^ k ≤ 9007199254740991 * 64 := Int.mul_le_mul hX.2 hp (by omega) (by omega)
  have hm0 : 0 ≤ X * 2 ^ k := Int.mul_nonneg hX.1 (by omega)
  rw [Int.emod_eq_of_lt hm0 (by omega), ← Int.mul_assoc]
  refine ⟨rfl, by omega, by omega⟩
theorem up_mid {X d : Int} (hX : 0 ≤ X ∧ X ≤ 9007199254740991) (h1 : 0 < d) (h2 : d < 64) :
    X.fdiv (2 ^ min (64 - d).toNat 64) * 18446744073709551616 + (X * 2 ^ min d.toNat 64) % 18446744073709551616 = X * 2 ^ d.toNat ∧ 0 ≤ X.fdiv (2 ^ min (64 - d).toNat 64) ∧ X.fdiv (2 ^ min (64 - d).toNat 64) ≤ 9007199254740991 ∧
    0 ≤ (X * 2 ^ min d.toNat 64) % 18446744073709551616 ∧ (X * 2 ^ min d.toNat 64) % 18446744073709551616 < 18446744073709551616 := by
  obtain ⟨k, hk⟩ : ∃ k : Nat, d = k := ⟨d.toNat, by omega⟩
  subst hk
  have e1 : min ((64 - (k : Int)).toNat) 64 = 64 - k := by omega
  have e2 : min ((k : Int).toNat) 64 = k := by omega
  rw [e1, e2, Int.toNat_natCast]
  obtain ⟨x, rfl⟩ : ∃ x : Nat, X = x := ⟨X.toNat, by omega⟩
  have f1 : ((x : Int)).fdiv (2 ^ (64 - k)) = ((x / 2 ^ (64 - k) : Nat) : Int) := by
    rw [Int.fdiv_eq_ediv_of_nonneg _ (Int.le_of_lt (Int.pow_pos (by decide)))]
    rw [show ((2 : Int) ^ (64 - k)) = ((2 ^ (64 - k) : Nat) : Int) by rw [Int.natCast_pow]; rfl, ← Int.natCast_ediv]
  have f2 : ((x : Int) * 2 ^ k) = ((x * 2 ^ k : Nat) : Int) := by rw [Int.natCast_mul, Int.natCast_pow]; rfl
  rw [f1, f2]
  have f3 : x * 2 ^ k = x / 2 ^ (64 - k) * 18446744073709551616 + (x * 2 ^ k) % 18446744073709551616 := by
    have e : (18446744073709551616 : Nat) = 2 ^ (64 - k) * 2 ^ k := by rw [← Nat.pow_add, show 64 - k + k = 64 by omega]
    have h := Nat.div_add_mod x (2 ^ (64 - k))
    have g : x * 2 ^ k = (x / 2 ^ (64 - k)) * 18446744073709551616 + (x % 2 ^ (64 - k)) * 2 ^ k := by
      conv => lhs; rw [← h]
      rw [e, Nat.add_mul]
      congr 1
      rw [Nat.mul_comm (2 ^ (64 - k)), Nat.mul_assoc]
    have g2 : (x % 2 ^ (64 - k)) * 2 ^ k < 18446744073709551616 := by
      rw [e]; exact Nat.mul_lt_mul_of_pos_right (Nat.mod_lt _ (Nat.two_pow_pos _)) (Nat.two_pow_pos _)
    omega
  have f4 : x / 2 ^ (64 - k) ≤ x := Nat.div_le_self _ _
  omega
end Go.Sx.Ref

/- The reference's sum of two that are finite: what each leaf comes to. No condition. -/
namespace Go.Proofs.Ytnodelimomljbaa.PlainRefC
open Go Go.Sx Go.Sx.Flt Go.Sx.Ref Go.Proofs.Ytnodelimomljbaa.RunRefC
set_option linter.unusedSimpArgs false
set_option linter.unusedVariables false
theorem bool_of {u : Nat → Int} {i : Nat} (h : Iv.has (some 0, some 1) (u i)) : u i = 0 ∨ u i = 1 := by
  have a := h.1 _ rfl; have b := h.2 _ rfl; omega
theorem le_of {a b : Int} (h : b2i (decide (a ≤ b)) ≠ 0) : a ≤ b := by
  by_cases g : a ≤ b
  · exact g
  · simp [g, b2i] at h
set_option maxHeartbeats 4000000 in
theorem add_plain (u : Nat → Int) (hk : KindOk u 0 addD.sp.ks) (hp : pcOk ⟨u, fnG⟩ addD.sp.pre) : Keeps ⟨u, fnG⟩ addD.sp.res addDR := by
  have h0 := bool_of hk.1
  have h5 := bool_of hk.2.2.2.2.2.1
  have p1 := le_of (hp (bi .le (.lit 0) (v 3)) (by simp [addD, pre2, preM, preE]))
  have p2 := le_of (hp (bi .le (v 3) (.lit 9007199254740991)) (by simp [addD, pre2, preM, preE]))
  have p3 := le_of (hp (bi .le (.lit (-1074)) (v 4)) (by simp [addD, pre2, preM, preE]))
  have p4 := le_of (hp (bi .le (v 4) (.lit 971)) (by simp [addD, pre2, preM, preE]))
  have p5 := le_of (hp (bi .le (.lit 0) (v 8)) (by simp [addD, pre2, preM, preE]))
  have p6 := le_of (hp (bi .le (v 8) (.lit 9007199254740991)) (by simp [addD, pre2, preM, preE]))
  have p7 := le_of (hp (bi .le (.lit (-1074)) (v 9)) (by simp [addD, pre2, preM, preE]))
  have p8 := le_of (hp (bi .le (v 9) (.lit 971)) (by simp [addD, pre2, preM, preE]))
  simp only [v, E.den] at p1 p2 p3 p4 p5 p6 p7 p8
  have d0 : b2i (b2i (u 0 == 0) == 0) = u 0 := by rcases h0 with h | h <;> simp [h, b2i]
  have d5 : b2i (b2i (u 5 == 0) == 0) = u 5 := by rcases h5 with h | h <;> simp [h, b2i]
  have F := fn6 (X := u 3) (ex := u 4) (Y := u 8) (ey := u 9) h0 h5 p1 p5 (by omega) (by omega)
  have ora : ∀ a b : Int, 0 ≤ a → a ≤ 18446744073709551615 → 0 ≤ b → b ≤ 18446744073709551615 → (bitI .or .u64 a b = 0 ↔ a = 0 ∧ b = 0) := fun a b h1 h2 h3 h4 => or_null ⟨h1, h2⟩ ⟨h3, h4⟩
  have ub := up_big (X := u 8) (d := u 9 - u 4) ⟨p5, p6⟩
  have um := up_mid (X := u 8) (d := u 9 - u 4) ⟨p5, p6⟩
  have vb := up_big (X := u 3) (d := u 4 - u 9) ⟨p1, p2⟩
  have vm := up_mid (X := u 3) (d := u 4 - u 9) ⟨p1, p2⟩
  obtain ⟨V, hV⟩ : ∃ V, sumC Ieee.double (u 0 == 1) (u 3).toNat (u 4) (u 5 == 1) (u 8).toNat (u 9) = V := ⟨_, rfl⟩
  have r0 : u 3 = 0 → u 8 = 0 → V = if u 0 ≠ 0 then sgn (u 5) else 0 := fun a b => hV ▸ sumC_z h0 h5 a b
  have rz : u 3 ≠ 0 → u 8 = 0 → Rules V (u 0) (u 5) (u 3) 0 (u 4) := fun a b => hV ▸ (sumC_ab p1 p5 a (.inl b)) ▸ rules_zero h0 h5 p1 b
  have rn : u 3 ≠ 0 → u 8 ≠ 0 → u 9 ≤ u 4 → u 4 - u 9 ≤ 70 → Rules V (u 0) (u 5) (u 3 * 2 ^ (u 4 - u 9).toNat) (u 8) (u 4 - (u 4 - u 9)) := fun a b c d => hV ▸ (sumC_ab p1 p5 a (.inr c)) ▸ rules_near h0 h5 p1 (by omega) (by omega) d
  have rf : u 3 ≠ 0 → u 8 ≠ 0 → u 9 ≤ u 4 → 70 < u 4 - u 9 → Rules V (u 0) (u 5) (u 3 * 2 ^ 70) 1 (u 4 - 70) := fun a b c d => hV ▸ (sumC_ab p1 p5 a (.inr c)) ▸ rules_far h0 h5 p1 (by omega) d
  have sz : u 3 = 0 → u 8 ≠ 0 → Rules V (u 5) (u 0) (u 8) 0 (u 9) := fun a b => hV ▸ (sumC_ba p1 p5 b (.inl a)) ▸ rules_zero h5 h0 p5 a
  have sn : u 3 ≠ 0 → u 8 ≠ 0 → u 4 < u 9 → u 9 - u 4 ≤ 70 → Rules V (u 5) (u 0) (u 8 * 2 ^ (u 9 - u 4).toNat) (u 3) (u 9 - (u 9 - u 4)) := fun a b c d => hV ▸ (sumC_ba p1 p5 b (.inr c)) ▸ rules_near h5 h0 p5 (by omega) (by omega) d
  have sf : u 3 ≠ 0 → u 8 ≠ 0 → u 4 < u 9 → 70 < u 9 - u 4 → Rules V (u 5) (u 0) (u 8 * 2 ^ 70) 1 (u 9 - 70) := fun a b c d => hV ▸ (sumC_ba p1 p5 b (.inr c)) ▸ rules_far h5 h0 p5 (by omega) d
  have sg0 : ∀ x : Int, (if x ≠ 0 then (9223372036854775808 : Int) else 0) = sgn x := fun _ => rfl
  have z1 : sgn (b2i (b2i ((0 : Int) == 0) == 0)) = 0 := by decide
  have hd1 : u 4 - u 9 = 0 → u 3 * 2 ^ (u 4 - u 9).toNat = u 3 := fun h => by rw [h]; simp
  simp only [addDR, addD, Keeps, chain, unOne, List.length, SameL, addE, pk, f3, v, bi, E.prop, E.den, Bi.den, Un.den, Nat.beq, d0, d5, F, hV, u64_wr, show IntKind.u64.bits = 64 from rfl, sg0, z1]
  clear F hV hp hk d0 d5
  generalize hA : u 8 * 2 ^ (u 9 - u 4).toNat = A at *
  generalize hB : u 3 * 2 ^ (u 4 - u 9).toNat = B at *
  generalize (u 8 * 2 ^ min (u 9 - u 4 + -64).toNat 64) % 18446744073709551616 = T1 at *
  generalize (u 3 * 2 ^ min (u 4 - u 9 + -64).toNat 64) % 18446744073709551616 = T2 at *
  generalize (u 8).fdiv (2 ^ min (64 - (u 9 - u 4)).toNat 64) = H1 at *
  generalize (u 3).fdiv (2 ^ min (64 - (u 4 - u 9)).toNat 64) = H2 at *
  generalize (u 8 * 2 ^ min (u 9 - u 4).toNat 64) % 18446744073709551616 = L1 at *
  generalize (u 3 * 2 ^ min (u 4 - u 9).toNat 64) % 18446744073709551616 = L2 at *
  refine ⟨?_, ?_, ?_, ?_, ?_, ?_, ?_, ?_, ?_, ?_, ?_, ?_, ?_, ?_, ?_, ?_, ?_, ?_, ?_, ?_, ?_, ?_, ?_, ?_, ?_, ?_, ?_, ?_, ?_, ?_, ?_, ?_, ?_, ?_, ?_, ?_, ?_, ?_, ?_, ?_, ?_, ?_, ?_, ?_, ?_, ?_, ?_, ?_, ?_, ?_, ?_, ?_, ?_, ?_, trivial⟩
  · intro c0 c1 c2 c3 c4 c5 c6 c7 c8 c9 c10
    refine ⟨trivial, ?_, trivial⟩
    rw [r0 c8 c9]
    rw [if_pos c10]
  · intro c0 c1 c2 c3 c4 c5 c6 c7 c8 c9 c10
    refine ⟨trivial, ?_, trivial⟩
    rw [r0 c8 c9]
    rw [if_neg c10]
    rfl
  · intro c0 c1 c2 c3 c4 c5 c6 c7 c8 c9 c10 c11
    refine ⟨trivial, ?_, trivial⟩
    first
    | (exfalso; omega)
    | exact ((sz c8 c9).same c10 _ _ (by omega) (by omega)).symm
  · intro c0 c1 c2 c3 c4 c5 c6 c7 c8 c9 c10 c11 c12
    refine ⟨trivial, ?_, trivial⟩
    first
    | (exfalso; omega)
    | exact ((sz c8 c9).same c10 _ _ (by omega) (by omega)).symm
  · intro c0 c1 c2 c3 c4 c5 c6 c7 c8 c9 c10 c11 c12
    refine ⟨trivial, ?_, trivial⟩
    first
    | (exfalso; omega)
    | exact ((sz c8 c9).same c10 _ _ (by omega) (by omega)).symm
  · intro c0 c1 c2 c3 c4 c5 c6 c7 c8 c9 c10 c11
    refine ⟨trivial, ?_, trivial⟩
    rw [ora _ _ (by omega) (by omega) (by omega) (by omega)] at c11
    first
    | (exfalso; omega)
    | exact ((sz c8 c9).null c10 (by omega)).symm
  · intro c0 c1 c2 c3 c4 c5 c6 c7 c8 c9 c10 c11
    refine ⟨trivial, ?_, trivial⟩
    rw [ora _ _ (by omega) (by omega) (by omega) (by omega)] at c11
    first
    | (exfalso; omega)
    | exact ((sz c8 c9).more c10 (by omega) _ _ (by omega) (by omega)).symm
  · intro c0 c1 c2 c3 c4 c5 c6 c7 c8 c9 c10 c11 c12
    refine ⟨trivial, ?_, trivial⟩
    first
    | (exfalso; omega)
    | exact ((sf c8 c9 c10 c11).same c12 _ _ (by omega) (by omega)).symm
  · intro c0 c1 c2 c3 c4 c5 c6 c7 c8 c9 c10 c11 c12 c13
    refine ⟨trivial, ?_, trivial⟩
    rw [ora _ _ (by omega) (by omega) (by omega) (by omega)] at c13
    first
    | (exfalso; omega)
    | exact ((sf c8 c9 c10 c11).null c12 (by omega)).symm
  · intro c0 c1 c2 c3 c4 c5 c6 c7 c8 c9 c10 c11 c12 c13
    refine ⟨trivial, ?_, trivial⟩
    rw [ora _ _ (by omega) (by omega) (by omega) (by omega)] at c13
    first
    | (exfalso; omega)
    | exact ((sf c8 c9 c10 c11).more c12 (by omega) _ _ (by omega) (by omega)).symm
  · intro c0 c1 c2 c3 c4 c5 c6 c7 c8 c9 c10 c11 c12 c13 c14
    refine ⟨trivial, ?_, trivial⟩
    have e1 := ub c12 c11
    first
    | (exfalso; omega)
    | exact ((sn c8 c9 c10 c11).same c13 _ _ (by omega) (by omega)).symm
  · intro c0 c1 c2 c3 c4 c5 c6 c7 c8 c9 c10 c11 c12 c13 c14
    refine ⟨trivial, ?_, trivial⟩
    have e1 := ub c12 c11
    first
    | (exfalso; omega)
    | exact ((sn c8 c9 c10 c11).same c13 _ _ (by omega) (by omega)).symm
  · intro c0 c1 c2 c3 c4 c5 c6 c7 c8 c9 c10 c11 c12 c13 c14
    refine ⟨trivial, ?_, trivial⟩
    have e1 := ub c12 c11
    first
    | (exfalso; omega)
    | exact ((sn c8 c9 c10 c11).less c13 (by omega) _ _ (by omega) (by omega)).symm
  · intro c0 c1 c2 c3 c4 c5 c6 c7 c8 c9 c10 c11 c12 c13 c14 c15
    refine ⟨trivial, ?_, trivial⟩
    have e1 := ub c12 c11
    rw [ora _ _ (by omega) (by omega) (by omega) (by omega)] at c15
    first
    | (exfalso; omega)
    | exact ((sn c8 c9 c10 c11).null c13 (by omega)).symm
  · intro c0 c1 c2 c3 c4 c5 c6 c7 c8 c9 c10 c11 c12 c13 c14 c15
    refine ⟨trivial, ?_, trivial⟩
    have e1 := ub c12 c11
    rw [ora _ _ (by omega) (by omega) (by omega) (by omega)] at c15
    first
    | (exfalso; omega)
    | exact ((sn c8 c9 c10 c11).more c13 (by omega) _ _ (by omega) (by omega)).symm
  · intro c0 c1 c2 c3 c4 c5 c6 c7 c8 c9 c10 c11 c12 c13 c14
    refine ⟨trivial, ?_, trivial⟩
    have e1 := um (by omega) c12
    first
    | (exfalso; omega)
    | exact ((sn c8 c9 c10 c11).same c13 _ _ (by omega) (by omega)).symm
  · intro c0 c1 c2 c3 c4 c5 c6 c7 c8 c9 c10 c11 c12 c13 c14 c15
    refine ⟨trivial, ?_, trivial⟩
    have e1 := um (by omega) c12
    first
    | (exfalso; omega)
    | exact ((sn c8 c9 c10 c11).same c13 _ _ (by omega) (by omega)).symm
  · intro c0 c1 c2 c3 c4 c5 c6 c7 c8 c9 c10 c11 c12 c13 c14 c15
    refine ⟨trivial, ?_, trivial⟩
    have e1 := um (by omega) c12
    first
    | (exfalso; omega)
    | exact ((sn c8 c9 c10 c11).same c13 _ _ (by omega) (by omega)).symm
  · intro c0 c1 c2 c3 c4 c5 c6 c7 c8 c9 c10 c11 c12 c13 c14 c15
    refine ⟨trivial, ?_, trivial⟩
    have e1 := um (by omega) c12
    first
    | (exfalso; omega)
    | exact ((sn c8 c9 c10 c11).less c13 (by omega) _ _ (by omega) (by omega)).symm
  · intro c0 c1 c2 c3 c4 c5 c6 c7 c8 c9 c10 c11 c12 c13 c14 c15 c16
    refine ⟨trivial, ?_, trivial⟩
    have e1 := um (by omega) c12
    first
    | (exfalso; omega)
    | exact ((sn c8 c9 c10 c11).less c13 (by omega) _ _ (by omega) (by omega)).symm
  · intro c0 c1 c2 c3 c4 c5 c6 c7 c8 c9 c10 c11 c12 c13 c14 c15 c16 c17
    refine ⟨trivial, ?_, trivial⟩
    have e1 := um (by omega) c12
    rw [ora _ _ (by omega) (by omega) (by omega) (by omega)] at c17
    first
    | (exfalso; omega)
    | exact ((sn c8 c9 c10 c11).null c13 (by omega)).symm
  · intro c0 c1 c2 c3 c4 c5 c6 c7 c8 c9 c10 c11 c12 c13 c14 c15 c16 c17
    refine ⟨trivial, ?_, trivial⟩
    have e1 := um (by omega) c12
    rw [ora _ _ (by omega) (by omega) (by omega) (by omega)] at c17
    first
    | (exfalso; omega)
    | exact ((sn c8 c9 c10 c11).more c13 (by omega) _ _ (by omega) (by omega)).symm
  · intro c0 c1 c2 c3 c4 c5 c6 c7 c8 c9 c10 c11 c12 c13 c14 c15
    refine ⟨trivial, ?_, trivial⟩
    have e1 := um (by omega) c12
    first
    | (exfalso; omega)
    | exact ((sn c8 c9 c10 c11).less c13 (by omega) _ _ (by omega) (by omega)).symm
  · intro c0 c1 c2 c3 c4 c5 c6 c7 c8 c9 c10 c11 c12 c13 c14 c15 c16
    refine ⟨trivial, ?_, trivial⟩
    have e1 := um (by omega) c12
    rw [ora _ _ (by omega) (by omega) (by omega) (by omega)] at c16
    first
    | (exfalso; omega)
    | exact ((sn c8 c9 c10 c11).null c13 (by omega)).symm
  · intro c0 c1 c2 c3 c4 c5 c6 c7 c8 c9 c10 c11 c12 c13 c14 c15 c16
    refine ⟨trivial, ?_, trivial⟩
    have e1 := um (by omega) c12
    rw [ora _ _ (by omega) (by omega) (by omega) (by omega)] at c16
    first
    | (exfalso; omega)
    | exact ((sn c8 c9 c10 c11).more c13 (by omega) _ _ (by omega) (by omega)).symm
  · intro c0 c1 c2 c3 c4 c5 c6 c7 c8 c9 c10 c11 c12
    refine ⟨trivial, ?_, trivial⟩
    first
    | (exfalso; omega)
    | exact ((rf c8 c9 c10 c11).same c12 _ _ (by omega) (by omega)).symm
  · intro c0 c1 c2 c3 c4 c5 c6 c7 c8 c9 c10 c11 c12 c13
    refine ⟨trivial, ?_, trivial⟩
    rw [ora _ _ (by omega) (by omega) (by omega) (by omega)] at c13
    first
    | (exfalso; omega)
    | exact ((rf c8 c9 c10 c11).null c12 (by omega)).symm
  · intro c0 c1 c2 c3 c4 c5 c6 c7 c8 c9 c10 c11 c12 c13
    refine ⟨trivial, ?_, trivial⟩
    rw [ora _ _ (by omega) (by omega) (by omega) (by omega)] at c13
    first
    | (exfalso; omega)
    | exact ((rf c8 c9 c10 c11).more c12 (by omega) _ _ (by omega) (by omega)).symm
  · intro c0 c1 c2 c3 c4 c5 c6 c7 c8 c9 c10 c11 c12 c13 c14
    refine ⟨trivial, ?_, trivial⟩
    have e1 := vb c12 c11
    first
    | (exfalso; omega)
    | exact ((rn c8 c9 c10 c11).same c13 _ _ (by omega) (by omega)).symm
  · intro c0 c1 c2 c3 c4 c5 c6 c7 c8 c9 c10 c11 c12 c13 c14
    refine ⟨trivial, ?_, trivial⟩
    have e1 := vb c12 c11
    first
    | (exfalso; omega)
    | exact ((rn c8 c9 c10 c11).same c13 _ _ (by omega) (by omega)).symm
  · intro c0 c1 c2 c3 c4 c5 c6 c7 c8 c9 c10 c11 c12 c13 c14
    refine ⟨trivial, ?_, trivial⟩
    have e1 := vb c12 c11
    first
    | (exfalso; omega)
    | exact ((rn c8 c9 c10 c11).less c13 (by omega) _ _ (by omega) (by omega)).symm
  · intro c0 c1 c2 c3 c4 c5 c6 c7 c8 c9 c10 c11 c12 c13 c14 c15
    refine ⟨trivial, ?_, trivial⟩
    have e1 := vb c12 c11
    rw [ora _ _ (by omega) (by omega) (by omega) (by omega)] at c15
    first
    | (exfalso; omega)
    | exact ((rn c8 c9 c10 c11).null c13 (by omega)).symm
  · intro c0 c1 c2 c3 c4 c5 c6 c7 c8 c9 c10 c11 c12 c13 c14 c15
    refine ⟨trivial, ?_, trivial⟩
    have e1 := vb c12 c11
    rw [ora _ _ (by omega) (by omega) (by omega) (by omega)] at c15
    first
    | (exfalso; omega)
    | exact ((rn c8 c9 c10 c11).more c13 (by omega) _ _ (by omega) (by omega)).symm
  · intro c0 c1 c2 c3 c4 c5 c6 c7 c8 c9 c10 c11 c12 c13 c14 c15
    refine ⟨trivial, ?_, trivial⟩
    have e0 := hd1 c13
    first
    | (exfalso; omega)
    | exact ((rn c8 c9 c10 c11).same c14 _ _ (by omega) (by omega)).symm
  · intro c0 c1 c2 c3 c4 c5 c6 c7 c8 c9 c10 c11 c12 c13 c14 c15 c16
    refine ⟨trivial, ?_, trivial⟩
    have e0 := hd1 c13
    first
    | (exfalso; omega)
    | exact ((rn c8 c9 c10 c11).same c14 _ _ (by omega) (by omega)).symm
  · intro c0 c1 c2 c3 c4 c5 c6 c7 c8 c9 c10 c11 c12 c13 c14 c15 c16
    refine ⟨trivial, ?_, trivial⟩
    have e0 := hd1 c13
    first
    | (exfalso; omega)
    | exact ((rn c8 c9 c10 c11).same c14 _ _ (by omega) (by omega)).symm
  · intro c0 c1 c2 c3 c4 c5 c6 c7 c8 c9 c10 c11 c12 c13 c14 c15
    refine ⟨trivial, ?_, trivial⟩
    have e0 := hd1 c13
    first
    | (exfalso; omega)
    | exact ((rn c8 c9 c10 c11).less c14 (by omega) _ _ (by omega) (by omega)).symm
  · intro c0 c1 c2 c3 c4 c5 c6 c7 c8 c9 c10 c11 c12 c13 c14 c15 c16
    refine ⟨trivial, ?_, trivial⟩
    have e0 := hd1 c13
    rw [ora _ _ (by omega) (by omega) (by omega) (by omega)] at c16
    first
    | (exfalso; omega)
    | exact ((rn c8 c9 c10 c11).null c14 (by omega)).symm
  · intro c0 c1 c2 c3 c4 c5 c6 c7 c8 c9 c10 c11 c12 c13 c14 c15 c16
    refine ⟨trivial, ?_, trivial⟩
    have e0 := hd1 c13
    rw [ora _ _ (by omega) (by omega) (by omega) (by omega)] at c16
    first
    | (exfalso; omega)
    | exact ((rn c8 c9 c10 c11).more c14 (by omega) _ _ (by omega) (by omega)).symm
  · intro c0 c1 c2 c3 c4 c5 c6 c7 c8 c9 c10 c11 c12 c13 c14 c15
    refine ⟨trivial, ?_, trivial⟩
    have e1 := vm (by omega) c12
    first
    | (exfalso; omega)
    | exact ((rn c8 c9 c10 c11).same c14 _ _ (by omega) (by omega)).symm
  · intro c0 c1 c2 c3 c4 c5 c6 c7 c8 c9 c10 c11 c12 c13 c14 c15 c16
    refine ⟨trivial, ?_, trivial⟩
    have e1 := vm (by omega) c12
    first
    | (exfalso; omega)
    | exact ((rn c8 c9 c10 c11).same c14 _ _ (by omega) (by omega)).symm
  · intro c0 c1 c2 c3 c4 c5 c6 c7 c8 c9 c10 c11 c12 c13 c14 c15 c16
    refine ⟨trivial, ?_, trivial⟩
    have e1 := vm (by omega) c12
    first
    | (exfalso; omega)
    | exact ((rn c8 c9 c10 c11).same c14 _ _ (by omega) (by omega)).symm
  · intro c0 c1 c2 c3 c4 c5 c6 c7 c8 c9 c10 c11 c12 c13 c14 c15 c16
    refine ⟨trivial, ?_, trivial⟩
    have e1 := vm (by omega) c12
    first
    | (exfalso; omega)
    | exact ((rn c8 c9 c10 c11).less c14 (by omega) _ _ (by omega) (by omega)).symm
  · intro c0 c1 c2 c3 c4 c5 c6 c7 c8 c9 c10 c11 c12 c13 c14 c15 c16 c17
    refine ⟨trivial, ?_, trivial⟩
    have e1 := vm (by omega) c12
    first
    | (exfalso; omega)
    | exact ((rn c8 c9 c10 c11).less c14 (by omega) _ _ (by omega) (by omega)).symm
  · intro c0 c1 c2 c3 c4 c5 c6 c7 c8 c9 c10 c11 c12 c13 c14 c15 c16 c17 c18
    refine ⟨trivial, ?_, trivial⟩
    have e1 := vm (by omega) c12
    rw [ora _ _ (by omega) (by omega) (by omega) (by omega)] at c18
    first
    | (exfalso; omega)
    | exact ((rn c8 c9 c10 c11).null c14 (by omega)).symm
  · intro c0 c1 c2 c3 c4 c5 c6 c7 c8 c9 c10 c11 c12 c13 c14 c15 c16 c17 c18
    refine ⟨trivial, ?_, trivial⟩
    have e1 := vm (by omega) c12
    rw [ora _ _ (by omega) (by omega) (by omega) (by omega)] at c18
    first
    | (exfalso; omega)
    | exact ((rn c8 c9 c10 c11).more c14 (by omega) _ _ (by omega) (by omega)).symm
  · intro c0 c1 c2 c3 c4 c5 c6 c7 c8 c9 c10 c11 c12 c13 c14 c15 c16
    refine ⟨trivial, ?_, trivial⟩
    have e1 := vm (by omega) c12
    first
    | (exfalso; omega)
    | exact ((rn c8 c9 c10 c11).less c14 (by omega) _ _ (by omega) (by omega)).symm
  · intro c0 c1 c2 c3 c4 c5 c6 c7 c8 c9 c10 c11 c12 c13 c14 c15 c16 c17
    refine ⟨trivial, ?_, trivial⟩
    have e1 := vm (by omega) c12
    rw [ora _ _ (by omega) (by omega) (by omega) (by omega)] at c17
    first
    | (exfalso; omega)
    | exact ((rn c8 c9 c10 c11).null c14 (by omega)).symm
  · intro c0 c1 c2 c3 c4 c5 c6 c7 c8 c9 c10 c11 c12 c13 c14 c15 c16 c17
    refine ⟨trivial, ?_, trivial⟩
    have e1 := vm (by omega) c12
    rw [ora _ _ (by omega) (by omega) (by omega) (by omega)] at c17
    first
    | (exfalso; omega)
    | exact ((rn c8 c9 c10 c11).more c14 (by omega) _ _ (by omega) (by omega)).symm
  · intro c0 c1 c2 c3 c4 c5 c6 c7 c8 c9 c10 c11
    refine ⟨trivial, ?_, trivial⟩
    first
    | (exfalso; omega)
    | exact ((rz c8 c9).same c10 _ _ (by omega) (by omega)).symm
  · intro c0 c1 c2 c3 c4 c5 c6 c7 c8 c9 c10 c11 c12
    refine ⟨trivial, ?_, trivial⟩
    first
    | (exfalso; omega)
    | exact ((rz c8 c9).same c10 _ _ (by omega) (by omega)).symm
  · intro c0 c1 c2 c3 c4 c5 c6 c7 c8 c9 c10 c11 c12
    refine ⟨trivial, ?_, trivial⟩
    first
    | (exfalso; omega)
    | exact ((rz c8 c9).same c10 _ _ (by omega) (by omega)).symm
  · intro c0 c1 c2 c3 c4 c5 c6 c7 c8 c9 c10 c11
    refine ⟨trivial, ?_, trivial⟩
    rw [ora _ _ (by omega) (by omega) (by omega) (by omega)] at c11
    first
    | (exfalso; omega)
    | exact ((rz c8 c9).null c10 (by omega)).symm
  · intro c0 c1 c2 c3 c4 c5 c6 c7 c8 c9 c10 c11
    refine ⟨trivial, ?_, trivial⟩
    rw [ora _ _ (by omega) (by omega) (by omega) (by omega)] at c11
    first
    | (exfalso; omega)
    | exact ((rz c8 c9).more c10 (by omega) _ _ (by omega) (by omega)).symm
theorem add_bd (u : Nat → Int) (hk : KindOk u 0 addD.sp.ks) (hp : pcOk ⟨u, fnG⟩ addD.sp.pre) : addD.sp.bds.ok ⟨u, fnG⟩ := fun p hp => by
  simp only [addD, addBd, List.mem_singleton] at hp
  subst hp
  have := fn6_in (E.den ⟨u, fnG⟩ (pk (v 3) (v 4))) (E.den ⟨u, fnG⟩ (pk (v 8) (v 9))) (E.den ⟨u, fnG⟩ (bi .add (bi .mul (v 0) (.lit 2)) (v 5)))
  exact ⟨fun _ h => by cases h; exact this.1, fun _ h => by cases h; exact this.2⟩
end Go.Proofs.Ytnodelimomljbaa.PlainRefC

/- The reference's loops: division bit by bit, the root bit by bit. No condition. -/
namespace Go.Sx.Ref
open Go Go.Sx Go.Sx.Flt Ieee
theorem or_nat {a b : Nat} (ha : a < 18446744073709551616) (hb : b < 18446744073709551616) : bitI .or .u64 (a : Int) (b : Int) = ((a ||| b : Nat) : Int) := by
  unfold bitI
  have e : (BitVec.ofInt IntKind.u64.bits (a : Int) ||| BitVec.ofInt IntKind.u64.bits (b : Int)).toNat = a ||| b := by
    show (BitVec.ofInt 64 (a : Int) ||| BitVec.ofInt 64 (b : Int)).toNat = _
    rw [BitVec.toNat_or, ofInt_nat, ofInt_nat]
    congr 1 <;> omega
  have h : a ||| b < 2 ^ 64 := Nat.or_lt_two_pow (by simpa using ha) (by simpa using hb)
  simp only [e, u64_wr]
  have h' : a ||| b < 18446744073709551616 := by simpa using h
  omega
theorem divL_lt : ∀ (n lo y q h : Nat), n ≤ 64 → q < 18446744073709551616 → h < 18446744073709551616 → (divL n lo y q h).1 < 18446744073709551616 ∧ (divL n lo y q h).2 < 18446744073709551616
  | 0, lo, y, q, h, _, hq, hh => ⟨hq, hh⟩
  | n + 1, lo, y, q, h, hn, hq, hh => by
    simp only [divL]
    split
    · refine divL_lt n lo y _ _ (by omega) ?_ (by omega)
      have h2 : (2 : Nat) ^ n < 2 ^ 64 := Nat.pow_lt_pow_right (by decide) (by omega)
      have := Nat.or_lt_two_pow (x := q) (y := 2 ^ n) (n := 64) (by simpa using hq) h2
      simpa using this
    · exact divL_lt n lo y _ _ (by omega) hq (by omega)
theorem divL_spec : ∀ (n lo y q h : Nat), h < y → y < 18446744073709551616 → (divL n lo y q h).1 = q ||| ((h * 2 ^ n + lo % 2 ^ n) / y) ∧ (divL n lo y q h).2 = (h * 2 ^ n + lo % 2 ^ n) % y
  | 0, lo, y, q, h, hy, _ => by
    simp only [divL, Nat.pow_zero, Nat.mul_one, Nat.mod_one, Nat.add_zero]
    rw [Nat.div_eq_of_lt hy, Nat.mod_eq_of_lt hy, Nat.or_zero]
    exact ⟨rfl, rfl⟩
  | n + 1, lo, y, q, h, hy, hy2 => by
    obtain ⟨b, hb⟩ : ∃ b, lo / 2 ^ n % 2 = b := ⟨_, rfl⟩
    have hb2 : b < 2 := by rw [← hb]; exact Nat.mod_lt _ (by decide)
    have hN : h * 2 ^ (n + 1) + lo % 2 ^ (n + 1) = (h * 2 + b) * 2 ^ n + lo % 2 ^ n := by
      rw [Nat.mod_pow_succ, hb, Nat.pow_succ, Nat.add_mul, Nat.mul_assoc h 2, Nat.mul_comm 2 (2 ^ n), Nat.mul_comm b]
      omega
    have hlt := Nat.mod_lt lo (Nat.two_pow_pos n)
    rw [hN]
    simp only [divL, hb]
    by_cases hc : y ≤ h * 2 + b
    · have hcond : h / 9223372036854775808 = 1 ∨ y ≤ (h * 2 + b) % 18446744073709551616 := by omega
      rw [if_pos hcond]
      obtain ⟨g, hg⟩ : ∃ g, h * 2 + b = y + g := ⟨h * 2 + b - y, by omega⟩
      have hg2 : ((h * 2 + b) % 18446744073709551616 + 18446744073709551616 - y) % 18446744073709551616 = g := by omega
      rw [hg2]
      obtain ⟨i1, i2⟩ := divL_spec n lo y (q ||| 2 ^ n) g (by omega) hy2
      rw [i1, i2, hg, Nat.add_mul, Nat.add_assoc]
      have hlt2 : g * 2 ^ n + lo % 2 ^ n < y * 2 ^ n := by
        have : (g + 1) * 2 ^ n ≤ y * 2 ^ n := Nat.mul_le_mul_right _ (by omega)
        rw [Nat.add_mul] at this
        omega
      have hd : (g * 2 ^ n + lo % 2 ^ n) / y < 2 ^ n := (Nat.div_lt_iff_lt_mul (by omega)).2 (by rw [Nat.mul_comm (2 ^ n) y]; exact hlt2)
      have e1 : (y * 2 ^ n + (g * 2 ^ n + lo % 2 ^ n)) / y = 2 ^ n + (g * 2 ^ n + lo % 2 ^ n) / y := Nat.mul_add_div (by omega) _ _
      have e2 : (y * 2 ^ n + (g * 2 ^ n + lo % 2 ^ n)) % y = (g * 2 ^ n + lo % 2 ^ n) % y := Nat.mul_add_mod _ _ _
      rw [e1, e2, Nat.or_assoc]
      refine ⟨?_, rfl⟩
      congr 1
      have := Nat.two_pow_add_eq_or_of_lt hd 1
      rw [Nat.mul_one] at this
      exact this.symm
    · have hcond : ¬ (h / 9223372036854775808 = 1 ∨ y ≤ (h * 2 + b) % 18446744073709551616) := by omega
      rw [if_neg hcond]
      have e : (h * 2 + b) % 18446744073709551616 = h * 2 + b := by omega
      rw [e]
      exact divL_spec n lo y q (h * 2 + b) (by omega) hy2
theorem rootL_lt : ∀ (n N r : Nat), n ≤ 64 → r < 18446744073709551616 → rootL n N r < 18446744073709551616
  | 0, N, r, _, hr => hr
  | n + 1, N, r, hn, hr => by
    simp only [rootL]
    split
    · refine rootL_lt n N _ (by omega) ?_
      have h2 : (2 : Nat) ^ n < 2 ^ 64 := Nat.pow_lt_pow_right (by decide) (by omega)
      have := Nat.or_lt_two_pow (x := r) (y := 2 ^ n) (n := 64) (by simpa using hr) h2
      simpa using this
    · exact rootL_lt n N _ (by omega) hr
theorem or_add {r n : Nat} (h : 2 ^ (n + 1) ∣ r) : r ||| 2 ^ n = r + 2 ^ n := by
  obtain ⟨k, rfl⟩ := h
  exact (Nat.two_pow_add_eq_or_of_lt (Nat.pow_lt_pow_right (by decide) (Nat.lt_succ_self n)) k).symm
theorem rootL_spec (N : Nat) : ∀ (n r : Nat), 2 ^ n ∣ r → r * r ≤ N → N < (r + 2 ^ n) * (r + 2 ^ n) → rootL n N r * rootL n N r ≤ N ∧ N < (rootL n N r + 1) * (rootL n N r + 1)
  | 0, r, _, h1, h2 => by simpa [rootL] using ⟨h1, h2⟩
  | n + 1, r, hd, h1, h2 => by
    simp only [rootL, or_add hd]
    have hd' : 2 ^ n ∣ r := Nat.dvd_trans (Nat.pow_dvd_pow 2 (Nat.le_succ n)) hd
    split
    · rename_i h
      refine rootL_spec N n _ (Nat.dvd_add hd' (Nat.dvd_refl _)) h ?_
      rw [Nat.add_assoc, ← Nat.two_mul, Nat.mul_comm 2, ← Nat.pow_succ]
      exact h2
    · rename_i h
      exact rootL_spec N n _ hd' h1 (by omega)
end Go.Sx.Ref

/- The reference's floats in numbers: division of two words, floats taken apart, the order, sums, products. No condition. -/
namespace Go.Proofs.Ytnodelimomljbaa.PlainRefB
open Go Go.Sx Go.Sx.Flt Go.Sx.Ref Go.Proofs.Ytnodelimomljbaa.RunRefB Go.Proofs.Ytnodelimomljbaa.PlainRefA Go.Proofs.Ytnodelimomljbaa.PlainRefC
set_option linter.unusedSimpArgs false
set_option linter.unusedVariables false
theorem fn12 {q h l y n : Int} (hq : 0 ≤ q) (hh : 0 ≤ h) (hl : 0 ≤ l ∧ l ≤ 18446744073709551615) (hy : 0 ≤ y) (hn : 0 ≤ n ∧ n < 128) :
    fnG 12 q (h * 18446744073709551616 + l) (y * 128 + n) = ((divL n.toNat l.toNat y.toNat q.toNat h.toNat).1 : Nat) ∧ fnG 13 q (h * 18446744073709551616 + l) (y * 128 + n) = ((divL n.toNat l.toNat y.toNat q.toNat h.toNat).2 : Nat) := by
  simp only [fnG]
  have e1 : (y * 128 + n) % 128 = n := by omega
  have e2 : (y * 128 + n) / 128 = y := by omega
  have e3 : (h * 18446744073709551616 + l) % 18446744073709551616 = l := by omega
  have e4 : (h * 18446744073709551616 + l) / 18446744073709551616 = h := by omega
  rw [e1, e2, e3, e4]
  exact ⟨rfl, rfl⟩
theorem u64_in {n : Int} (h : 0 ≤ n) (h2 : n < 18446744073709551616) : IntKind.u64.wrap n = n := by rw [u64_w]; omega
theorem shl_one {k : Nat} (h : k < 64) : IntKind.u64.wrap (1 * 2 ^ min k 64) = ((2 ^ k : Nat) : Int) := by
  have hp : (2 : Nat) ^ k < 2 ^ 64 := Nat.pow_lt_pow_right (by decide) h
  have hp' : (2 : Nat) ^ k < 18446744073709551616 := by simpa using hp
  rw [Nat.min_eq_left (by omega), Int.one_mul, show ((2 : Int) ^ k) = ((2 ^ k : Nat) : Int) by rw [Int.natCast_pow]; rfl]
  exact u64_in (Int.natCast_nonneg _) (Int.ofNat_lt.2 hp')
set_option maxHeartbeats 1000000 in
theorem divLo_plain (u : Nat → Int) (h : KindOk u 0 divLo.ks) : LKeeps ⟨u, fnG⟩ divLo divLoR := by
  have h0 : 0 ≤ u 0 ∧ u 0 ≤ 18446744073709551615 := of_kind h.1
  have h1 : 0 ≤ u 1 ∧ u 1 ≤ 18446744073709551615 := of_kind h.2.1
  have h2 : 0 ≤ u 2 ∧ u 2 ≤ 18446744073709551615 := of_kind h.2.2.1
  have h3 : 0 ≤ u 3 ∧ u 3 ≤ 18446744073709551615 := of_kind h.2.2.2.1
  simp only [divLo, divLoR, LKeeps, chain, allProp, allSame, SameL, List.map, E.at, v, bi, nn, w64, un, u64, f3, divE, E.prop, E.den, mkBin, den_mkUn, den_mkNot, Bi.den, Un.den, List.getD_cons_zero, List.getD_cons_succ]
  have step : 0 ≤ u 4 → u 4 ≤ 63 → ∃ (n : Nat) (b hh : Int), u 4 = n ∧ n < 64 ∧ bitI .or .u64 (IntKind.u64.wrap (u 0 * 2)) ((u 1).fdiv (2 ^ min (u 4).toNat IntKind.u64.bits) % 2) = hh ∧ 0 ≤ hh ∧ hh < 18446744073709551616 ∧
      bitI .or .u64 (u 3) (IntKind.u64.wrap (1 * 2 ^ min (u 4).toNat IntKind.u64.bits)) = (((u 3).toNat ||| 2 ^ n : Nat) : Int) ∧ (u 3).toNat ||| 2 ^ n < 18446744073709551616 ∧
      ((u 0).toNat * 2 + (u 1).toNat / 2 ^ n % 2) % 18446744073709551616 = hh.toNat := by
    intro hi hj
    obtain ⟨n, hn⟩ := Int.eq_ofNat_of_zero_le hi
    have e1 := shr_nat (x := u 1) (k := u 4) h1.1 (by omega)
    rw [show IntKind.u64.bits = 64 from rfl, e1, hn, Int.toNat_natCast, shl_one (by omega)]
    have hq : u 3 = ((u 3).toNat : Int) := by omega
    have hp' : (2 : Nat) ^ n < 18446744073709551616 := by simpa using Nat.pow_lt_pow_right (a := 2) (by decide) (show n < 64 by omega)
    have hor : (u 3).toNat ||| 2 ^ n < 18446744073709551616 := by
      have := Nat.or_lt_two_pow (x := (u 3).toNat) (y := 2 ^ n) (n := 64) (by simp; omega) (by simpa using hp')
      simpa using this
    obtain ⟨b, hb⟩ : ∃ b, (u 1).toNat / 2 ^ n % 2 = b := ⟨_, rfl⟩
    have hb2 : b < 2 := by rw [← hb]; exact Nat.mod_lt _ (by decide)
    have hb3 : (((u 1).toNat / 2 ^ n : Nat) : Int) % 2 = b := by omega
    rw [hb3, u64_w, or_at 1 (by omega) (by omega) (by omega) (by simp; omega) (by omega)]
    refine ⟨n, b, _, rfl, by omega, rfl, by omega, by omega, ?_, hor, by rw [hb]; omega⟩
    conv => lhs; rw [hq]
    exact or_nat (by omega) hp'
  refine ⟨fun a1 a2 a3 a4 => ?_, fun a1 a2 a3 a4 a5 => ?_, fun a1 a2 a3 a4 a5 => ?_, fun a1 a2 a3 => ?_, trivial⟩
  · obtain ⟨n, b, hh, hn, hn2, e1, e2, e3, e4, e5, e6⟩ := step (by omega) (by omega)
    rw [e1, e4]
    have w1 : IntKind.u64.wrap (hh - u 2) = (hh - u 2) % 18446744073709551616 := u64_w _
    rw [w1]
    have f1 := fn12 (q := (((u 3).toNat ||| 2 ^ n : Nat) : Int)) (h := (hh - u 2) % 18446744073709551616) (l := u 1) (y := u 2) (n := u 4 + -1 + 1) (by omega) (by omega) h1 h2.1 (by omega)
    have f2 := fn12 (q := u 3) (h := u 0) (l := u 1) (y := u 2) (n := u 4 + 1) h3.1 h0.1 h1 h2.1 (by omega)
    rw [f1.1, f1.2, f2.1, f2.2]
    have t1 : (u 4 + -1 + 1).toNat = n := by omega
    have t2 : (u 4 + 1).toNat = n + 1 := by omega
    rw [t1, t2]
    have hs : divL (n + 1) (u 1).toNat (u 2).toNat (u 3).toNat (u 0).toNat = divL n (u 1).toNat (u 2).toNat ((u 3).toNat ||| 2 ^ n) ((hh.toNat + 18446744073709551616 - (u 2).toNat) % 18446744073709551616) := by
      simp only [divL, e6]
      rw [if_pos (.inl (by omega))]
    rw [hs, Int.toNat_natCast, show ((hh - u 2) % 18446744073709551616).toNat = (hh.toNat + 18446744073709551616 - (u 2).toNat) % 18446744073709551616 by omega]
    refine ⟨⟨by omega, by omega, trivial⟩, ⟨rfl, rfl, trivial, trivial⟩, by omega, by omega⟩
  · obtain ⟨n, b, hh, hn, hn2, e1, e2, e3, e4, e5, e6⟩ := step (by omega) (by omega)
    rw [e1] at a5
    rw [e1, e4]
    have f1 := fn12 (q := (((u 3).toNat ||| 2 ^ n : Nat) : Int)) (h := hh - u 2) (l := u 1) (y := u 2) (n := u 4 + -1 + 1) (by omega) (by omega) h1 h2.1 (by omega)
    have f2 := fn12 (q := u 3) (h := u 0) (l := u 1) (y := u 2) (n := u 4 + 1) h3.1 h0.1 h1 h2.1 (by omega)
    rw [f1.1, f1.2, f2.1, f2.2]
    have t1 : (u 4 + -1 + 1).toNat = n := by omega
    have t2 : (u 4 + 1).toNat = n + 1 := by omega
    rw [t1, t2]
    have hs : divL (n + 1) (u 1).toNat (u 2).toNat (u 3).toNat (u 0).toNat = divL n (u 1).toNat (u 2).toNat ((u 3).toNat ||| 2 ^ n) ((hh.toNat + 18446744073709551616 - (u 2).toNat) % 18446744073709551616) := by
      simp only [divL, e6]
      rw [if_pos (.inr (by omega))]
    rw [hs, Int.toNat_natCast, show (hh - u 2).toNat = (hh.toNat + 18446744073709551616 - (u 2).toNat) % 18446744073709551616 by omega]
    refine ⟨⟨by omega, by omega, trivial⟩, ⟨rfl, rfl, trivial, trivial⟩, by omega, by omega⟩
  · obtain ⟨n, b, hh, hn, hn2, e1, e2, e3, e4, e5, e6⟩ := step (by omega) (by omega)
    rw [e1] at a5
    rw [e1]
    have f1 := fn12 (q := u 3) (h := hh) (l := u 1) (y := u 2) (n := u 4 + -1 + 1) h3.1 (by omega) h1 h2.1 (by omega)
    have f2 := fn12 (q := u 3) (h := u 0) (l := u 1) (y := u 2) (n := u 4 + 1) h3.1 h0.1 h1 h2.1 (by omega)
    rw [f1.1, f1.2, f2.1, f2.2]
    have t1 : (u 4 + -1 + 1).toNat = n := by omega
    have t2 : (u 4 + 1).toNat = n + 1 := by omega
    rw [t1, t2]
    have hs : divL (n + 1) (u 1).toNat (u 2).toNat (u 3).toNat (u 0).toNat = divL n (u 1).toNat (u 2).toNat (u 3).toNat hh.toNat := by
      simp only [divL, e6]
      rw [if_neg (by omega)]
    rw [hs]
    refine ⟨⟨by omega, by omega, trivial⟩, ⟨rfl, rfl, trivial, trivial⟩, by omega, by omega⟩
  · have f2 := fn12 (q := u 3) (h := u 0) (l := u 1) (y := u 2) (n := u 4 + 1) h3.1 h0.1 h1 h2.1 (by omega)
    rw [f2.1, f2.2, show (u 4 + 1).toNat = 0 by omega]
    refine ⟨trivial, ?_, trivial, ?_, trivial, by omega, trivial⟩
    · show u 3 = IntKind.u64.wrap (((u 3).toNat : Nat) : Int)
      rw [u64_in (by omega) (by omega)]; omega
    · show u 0 = IntKind.u64.wrap (((u 0).toNat : Nat) : Int)
      rw [u64_in (by omega) (by omega)]; omega
theorem div_in (u : Nat → Int) (hk : KindOk u 0 divS.ks) : (0 ≤ fnG 12 0 (u 0 * 18446744073709551616 + u 1) (u 2 * 128 + 64) ∧ fnG 12 0 (u 0 * 18446744073709551616 + u 1) (u 2 * 128 + 64) < 18446744073709551616) ∧
    (0 ≤ fnG 13 0 (u 0 * 18446744073709551616 + u 1) (u 2 * 128 + 64) ∧ fnG 13 0 (u 0 * 18446744073709551616 + u 1) (u 2 * 128 + 64) < 18446744073709551616) := by
  have h0 : 0 ≤ u 0 ∧ u 0 ≤ 18446744073709551615 := of_kind hk.1
  have h1 : 0 ≤ u 1 ∧ u 1 ≤ 18446744073709551615 := of_kind hk.2.1
  have h2 : 0 ≤ u 2 ∧ u 2 ≤ 18446744073709551615 := of_kind hk.2.2.1
  have f := fn12 (q := 0) (h := u 0) (l := u 1) (y := u 2) (n := 64) (by omega) h0.1 h1 h2.1 (by omega)
  have g := divL_lt 64 (u 1).toNat (u 2).toNat 0 (u 0).toNat (by omega) (by omega) (by omega)
  rw [f.1, f.2]
  simp only [show (64 : Int).toNat = 64 from rfl, show (0 : Int).toNat = 0 from rfl]
  omega
theorem div_plain (u : Nat → Int) (hk : KindOk u 0 divS.ks) (_ : pcOk ⟨u, fnG⟩ divS.pre) : Keeps ⟨u, fnG⟩ divS.res divR := by
  have g := div_in u hk
  simp only [divS, divR, Keeps, chain, unOne, List.length, Nat.beq, SameL, div0, f3, nn, w64, v, bi, u64, un, E.prop, E.den, Bi.den, Un.den]
  exact ⟨⟨trivial, u64_in g.1.1 g.1.2, trivial, u64_in g.2.1 g.2.2, trivial⟩, trivial⟩
theorem div_bd (u : Nat → Int) (hk : KindOk u 0 divS.ks) (_ : pcOk ⟨u, fnG⟩ divS.pre) : divS.bds.ok ⟨u, fnG⟩ := fun p hp => by
  have g := div_in u hk
  simp only [divS, List.mem_cons, List.not_mem_nil, or_false] at hp
  rcases hp with rfl | rfl
  · exact ⟨fun _ h => by cases h; exact g.1.1, fun _ h => by cases h; exact Int.le_of_lt_add_one g.1.2⟩
  · exact ⟨fun _ h => by cases h; exact g.2.1, fun _ h => by cases h; exact Int.le_of_lt_add_one g.2.2⟩
theorem fn14 {r h l n : Int} (hr : 0 ≤ r) (hh : 0 ≤ h) (hl : 0 ≤ l) (hn : 0 ≤ n) : fnG 14 r (h * 18446744073709551616 + l) n = ((rootL n.toNat (h.toNat * 18446744073709551616 + l.toNat) r.toNat : Nat) : Int) := by
  simp only [fnG]
  rw [nn_nat hh hl]
set_option maxHeartbeats 1000000 in
theorem rootLo_plain (u : Nat → Int) (h : KindOk u 0 rootLo.ks) : LKeeps ⟨u, fnG⟩ rootLo rootLoR := by
  have h0 : 0 ≤ u 0 ∧ u 0 ≤ 18446744073709551615 := of_kind h.1
  have h1 : 0 ≤ u 1 ∧ u 1 ≤ 18446744073709551615 := of_kind h.2.1
  have h2 : 0 ≤ u 2 ∧ u 2 ≤ 18446744073709551615 := of_kind h.2.2.1
  simp only [rootLo, rootLoR, LKeeps, chain, allProp, allSame, SameL, List.map, E.at, v, bi, nn, w64, un, u64, f3, E.prop, E.den, mkBin, den_mkUn, den_mkNot, Bi.den, Un.den, List.getD_cons_zero, List.getD_cons_succ]
  have step : 0 ≤ u 3 → u 3 ≤ 63 → ∃ (n t : Nat), u 3 = n ∧ n < 64 ∧ bitI .or .u64 (u 2) (IntKind.u64.wrap (1 * 2 ^ min (u 3).toNat IntKind.u64.bits)) = (t : Int) ∧ t < 18446744073709551616 ∧ (u 2).toNat ||| 2 ^ n = t ∧
      IntKind.u64.wrap ((t : Int) * t / 18446744073709551616) * 18446744073709551616 + IntKind.u64.wrap ((t : Int) * t) = ((t * t : Nat) : Int) ∧ 0 ≤ IntKind.u64.wrap ((t : Int) * t / 18446744073709551616) ∧ 0 ≤ IntKind.u64.wrap ((t : Int) * t) ∧ IntKind.u64.wrap ((t : Int) * t) < 18446744073709551616 := by
    intro hi hj
    obtain ⟨n, hn⟩ := Int.eq_ofNat_of_zero_le hi
    have hq : u 2 = ((u 2).toNat : Int) := by omega
    have hp' : (2 : Nat) ^ n < 18446744073709551616 := by simpa using Nat.pow_lt_pow_right (a := 2) (by decide) (show n < 64 by omega)
    have hor : (u 2).toNat ||| 2 ^ n < 18446744073709551616 := by
      have := Nat.or_lt_two_pow (x := (u 2).toNat) (y := 2 ^ n) (n := 64) (by simp; omega) (by simpa using hp')
      simpa using this
    rw [show IntKind.u64.bits = 64 from rfl, hn, Int.toNat_natCast, shl_one (by omega)]
    obtain ⟨t, ht⟩ : ∃ t, (u 2).toNat ||| 2 ^ n = t := ⟨_, rfl⟩
    rw [ht] at hor
    have htt : t * t < 18446744073709551616 * 18446744073709551616 := Nat.mul_lt_mul'' hor hor
    refine ⟨n, t, rfl, by omega, ?_, hor, ht, ?_⟩
    · conv => lhs; rw [hq]
      rw [or_nat (by omega) hp', ht]
    · rw [u64_w, u64_w, ← Int.natCast_mul]
      generalize t * t = T at htt
      omega
  refine ⟨fun a1 a2 a3 a4 => ?_, fun a1 a2 a3 a4 a5 a6 => ?_, fun a1 a2 a3 a4 a5 a6 => ?_, fun a1 a2 a3 a4 a5 => ?_, fun a1 a2 a3 => ?_, trivial⟩
  · obtain ⟨n, t, hn, hn2, e1, e2, e3, e4, e5, e6, e7⟩ := step (by omega) (by omega)
    rw [e1] at a4 ⊢
    have f1 := fn14 (r := (t : Int)) (h := u 0) (l := u 1) (n := u 3 + -1 + 1) (by omega) h0.1 h1.1 (by omega)
    have f2 := fn14 (r := u 2) (h := u 0) (l := u 1) (n := u 3 + 1) h2.1 h0.1 h1.1 (by omega)
    rw [f1, f2, show (u 3 + -1 + 1).toNat = n by omega, show (u 3 + 1).toNat = n + 1 by omega]
    simp only [rootL, e3, Int.toNat_natCast]
    rw [if_pos (by omega)]
    exact ⟨⟨by omega, by omega, trivial⟩, ⟨rfl, trivial, trivial⟩, by omega, by omega⟩
  · obtain ⟨n, t, hn, hn2, e1, e2, e3, e4, e5, e6, e7⟩ := step (by omega) (by omega)
    rw [e1] at a4 a5 a6 ⊢
    have f1 := fn14 (r := (t : Int)) (h := u 0) (l := u 1) (n := u 3 + -1 + 1) (by omega) h0.1 h1.1 (by omega)
    have f2 := fn14 (r := u 2) (h := u 0) (l := u 1) (n := u 3 + 1) h2.1 h0.1 h1.1 (by omega)
    rw [f1, f2, show (u 3 + -1 + 1).toNat = n by omega, show (u 3 + 1).toNat = n + 1 by omega]
    simp only [rootL, e3, Int.toNat_natCast]
    rw [if_pos (by omega)]
    exact ⟨⟨by omega, by omega, trivial⟩, ⟨rfl, trivial, trivial⟩, by omega, by omega⟩
  · obtain ⟨n, t, hn, hn2, e1, e2, e3, e4, e5, e6, e7⟩ := step (by omega) (by omega)
    rw [e1] at a4 a5 a6
    have f1 := fn14 (r := u 2) (h := u 0) (l := u 1) (n := u 3 + -1 + 1) h2.1 h0.1 h1.1 (by omega)
    have f2 := fn14 (r := u 2) (h := u 0) (l := u 1) (n := u 3 + 1) h2.1 h0.1 h1.1 (by omega)
    rw [f1, f2, show (u 3 + -1 + 1).toNat = n by omega, show (u 3 + 1).toNat = n + 1 by omega]
    simp only [rootL, e3]
    rw [if_neg (by omega)]
    exact ⟨⟨by omega, by omega, trivial⟩, ⟨rfl, trivial, trivial⟩, by omega, by omega⟩
  · obtain ⟨n, t, hn, hn2, e1, e2, e3, e4, e5, e6, e7⟩ := step (by omega) (by omega)
    rw [e1] at a4 a5
    have f1 := fn14 (r := u 2) (h := u 0) (l := u 1) (n := u 3 + -1 + 1) h2.1 h0.1 h1.1 (by omega)
    have f2 := fn14 (r := u 2) (h := u 0) (l := u 1) (n := u 3 + 1) h2.1 h0.1 h1.1 (by omega)
    rw [f1, f2, show (u 3 + -1 + 1).toNat = n by omega, show (u 3 + 1).toNat = n + 1 by omega]
    simp only [rootL, e3]
    rw [if_neg (by omega)]
    exact ⟨⟨by omega, by omega, trivial⟩, ⟨rfl, trivial, trivial⟩, by omega, by omega⟩
  · have f2 := fn14 (r := u 2) (h := u 0) (l := u 1) (n := u 3 + 1) h2.1 h0.1 h1.1 (by omega)
    rw [f2, show (u 3 + 1).toNat = 0 by omega]
    refine ⟨trivial, ?_, trivial, by omega, trivial⟩
    show u 2 = IntKind.u64.wrap (((u 2).toNat : Nat) : Int)
    rw [u64_in (by omega) (by omega)]; omega
theorem or_comm' (a b : Int) : bitI .or .u64 a b = bitI .or .u64 b a := by
  unfold bitI
  simp only [BitVec.or_comm]
set_option maxHeartbeats 1000000 in
theorem apart_plain (u : Nat → Int) (hk : KindOk u 0 apartD.sp.ks) (_ : pcOk ⟨u, fnG⟩ apartD.sp.pre) : Keeps ⟨u, fnG⟩ apartD.sp.res apartDR := by
  have h0 : 0 ≤ u 0 ∧ u 0 ≤ 18446744073709551615 := of_kind hk.1
  have eo : bitI .or .u64 (u 0 % 4503599627370496) 4503599627370496 = u 0 % 4503599627370496 + 4503599627370496 := by
    rw [or_comm', or_at 52 (by omega) (by decide) (by omega) (by simp; omega) (by omega)]; omega
  simp only [apartD, apartDR, Keeps, chain, unOne, List.length, Nat.beq, SameL, negE, infE, nanE, magE, plcE, rE, M63, B52, I64, v, bi, den_iteP]
  simp only [E.prop, E.den, Bi.den, Un.den, eo]
  refine ⟨?_, ?_, ?_, trivial⟩
  · intro a1
    refine ⟨by omega, by omega, by omega, trivial, ?_, trivial, ?_, trivial⟩
    · rw [iteP_neg (by omega), iteP_neg (by omega)]; omega
    · rw [iteP_neg (by omega), iteP_neg (by omega)]
  · intro a1 a2
    refine ⟨by omega, by omega, by omega, trivial, ?_, trivial, ?_, trivial⟩
    · rw [iteP_pos (by omega)]; omega
    · rw [iteP_pos (by omega)]
  · intro a1 a2
    refine ⟨by omega, by omega, by omega, trivial, ?_, trivial, ?_, trivial⟩
    · rw [iteP_neg (by omega), iteP_pos (by omega)]; omega
    · rw [iteP_neg (by omega), iteP_pos (by omega)]; omega
theorem apart_bd (u : Nat → Int) (hk : KindOk u 0 apartD.sp.ks) (_ : pcOk ⟨u, fnG⟩ apartD.sp.pre) : apartD.sp.bds.ok ⟨u, fnG⟩ := fun p hp => by
  have h0 : 0 ≤ u 0 ∧ u 0 ≤ 18446744073709551615 := of_kind hk.1
  simp only [apartD, List.mem_cons, List.not_mem_nil, or_false] at hp
  rcases hp with rfl | rfl
  · have : 0 ≤ (magE (v 0)).den ⟨u, fnG⟩ ∧ (magE (v 0)).den ⟨u, fnG⟩ ≤ 9007199254740991 := by
      simp only [magE, rE, M63, B52, I64, v, bi, den_iteP]
      simp only [E.prop, E.den, Bi.den]
      exact iteP_in (fun _ => by omega) fun _ => iteP_in (fun _ => by omega) fun _ => by omega
    exact ⟨fun _ h => by cases h; exact this.1, fun _ h => by cases h; exact this.2⟩
  · have : -1074 ≤ (plcE (v 0)).den ⟨u, fnG⟩ ∧ (plcE (v 0)).den ⟨u, fnG⟩ ≤ 971 := by
      simp only [plcE, rE, M63, B52, I64, v, bi, den_iteP]
      simp only [E.prop, E.den, Bi.den]
      exact iteP_in (fun _ => by omega) fun _ => iteP_in (fun _ => by omega) fun _ => by omega
    exact ⟨fun _ h => by cases h; exact this.1, fun _ h => by cases h; exact this.2⟩
set_option maxHeartbeats 1000000 in
theorem less_plain (u : Nat → Int) (hk : KindOk u 0 lessD.sp.ks) (_ : pcOk ⟨u, fnG⟩ lessD.sp.pre) : Keeps ⟨u, fnG⟩ lessD.sp.res lessDR := by
  have h0 : 0 ≤ u 0 ∧ u 0 ≤ 18446744073709551615 := of_kind hk.1
  have h1 : 0 ≤ u 1 ∧ u 1 ≤ 18446744073709551615 := of_kind hk.2.1
  simp only [magE, plcE, rE, B52, I64, lessD, lessDR, Keeps, chain, unOne, List.length, Nat.beq, SameL, keyE, negE, M63, v, bi, den_iteP, E.prop, den_leP, den_ltP]
  simp only [E.prop, E.den, Bi.den, Un.den]
  by_cases a : 9223372036854775808 ≤ u 0 <;> by_cases b : 9223372036854775808 ≤ u 1 <;>
    (first | simp only [iteP_pos a] | simp only [iteP_neg a]) <;> (first | simp only [iteP_pos b] | simp only [iteP_neg b]) <;>
    refine ⟨?_, ?_, ?_, ?_, ?_, ?_, ?_, ?_, ?_, ?_, ?_, ?_, ?_, ?_, trivial⟩ <;> intros <;> refine ⟨?_, trivial⟩ <;> first | omega | (exfalso; rename_i h; exact h trivial)
theorem six {u : Nat → Int} {i : Nat} (h : Iv.has (some 0, some 1) (u i)) : u i = 0 ∨ u i = 1 := bool_of h
structure Two (u : Nat → Int) : Prop where
  s0 : u 0 = 0 ∨ u 0 = 1
  s1 : u 1 = 0 ∨ u 1 = 1
  s2 : u 2 = 0 ∨ u 2 = 1
  s5 : u 5 = 0 ∨ u 5 = 1
  s6 : u 6 = 0 ∨ u 6 = 1
  s7 : u 7 = 0 ∨ u 7 = 1
  m1 : 0 ≤ u 3 ∧ u 3 ≤ 9007199254740991
  e1 : -1074 ≤ u 4 ∧ u 4 ≤ 971
  m2 : 0 ≤ u 8 ∧ u 8 ≤ 9007199254740991
  e2 : -1074 ≤ u 9 ∧ u 9 ≤ 971
theorem two_of {u : Nat → Int} (hk : KindOk u 0 twoK) (hp : pcOk ⟨u, fnG⟩ pre2) : Two u := by
  have p1 := le_of (hp (bi .le (.lit 0) (v 3)) (by simp [pre2, preM, preE]))
  have p2 := le_of (hp (bi .le (v 3) (.lit 9007199254740991)) (by simp [pre2, preM, preE]))
  have p3 := le_of (hp (bi .le (.lit (-1074)) (v 4)) (by simp [pre2, preM, preE]))
  have p4 := le_of (hp (bi .le (v 4) (.lit 971)) (by simp [pre2, preM, preE]))
  have p5 := le_of (hp (bi .le (.lit 0) (v 8)) (by simp [pre2, preM, preE]))
  have p6 := le_of (hp (bi .le (v 8) (.lit 9007199254740991)) (by simp [pre2, preM, preE]))
  have p7 := le_of (hp (bi .le (.lit (-1074)) (v 9)) (by simp [pre2, preM, preE]))
  have p8 := le_of (hp (bi .le (v 9) (.lit 971)) (by simp [pre2, preM, preE]))
  exact ⟨bool_of hk.1, bool_of hk.2.1, bool_of hk.2.2.1, bool_of hk.2.2.2.2.2.1, bool_of hk.2.2.2.2.2.2.1, bool_of hk.2.2.2.2.2.2.2.1, ⟨p1, p2⟩, ⟨p3, p4⟩, ⟨p5, p6⟩, ⟨p7, p8⟩⟩
theorem nn01 {x : Int} (h : x = 0 ∨ x = 1) : b2i (b2i (x == 0) == 0) = x := by rcases h with h | h <;> simp [h, b2i]
set_option maxHeartbeats 1000000 in
theorem sum_plain (u : Nat → Int) (hk : KindOk u 0 sumD.sp.ks) (hp : pcOk ⟨u, fnG⟩ sumD.sp.pre) : Keeps ⟨u, fnG⟩ sumD.sp.res sumDR := by
  obtain ⟨s0, s1, s2, s5, s6, s7, m1, e1, m2, e2⟩ := two_of hk hp
  simp only [sumD, sumDR, Keeps, chain, unOne, List.length, Nat.beq, SameL, sumE, addE, xorE, no, un, f3, pk, sgI, nan64', I64, M63, v, bi, den_iteP]
  simp only [E.prop, E.den, Bi.den, Un.den, nn01 s0, nn01 s5]
  generalize fnG 6 _ _ _ = V
  rcases s0 with s0 | s0 <;> rcases s1 with s1 | s1 <;> rcases s2 with s2 | s2 <;> rcases s5 with s5 | s5 <;> rcases s6 with s6 | s6 <;> rcases s7 with s7 | s7 <;> simp [s0, s1, s2, s5, s6, s7, b2i, iteP_true, iteP_false]
theorem sum_in {u : Nat → Int} (hk : KindOk u 0 sumD.sp.ks) (hp : pcOk ⟨u, fnG⟩ sumD.sp.pre) : sumD.sp.bds.ok ⟨u, fnG⟩ := fun p hq => by
  simp only [sumD, List.mem_singleton] at hq
  subst hq
  have : 0 ≤ sumE.den ⟨u, fnG⟩ ∧ sumE.den ⟨u, fnG⟩ ≤ 18446744073709551615 := by
    simp only [sumE, addE, f3, sgI, den_iteP]
    simp only [nan64', I64, E.den]
    exact iteP_in (fun _ => by omega) fun _ => iteP_in (fun _ => iteP_in (fun _ => by omega) fun _ => by omega) fun _ => iteP_in (fun _ => iteP_in (fun _ => by omega) fun _ => by omega) fun _ => fn6_in _ _ _
  exact ⟨fun _ h => by cases h; exact this.1, fun _ h => by cases h; exact this.2⟩
set_option maxHeartbeats 1000000 in
theorem mul_plain' (u : Nat → Int) (hk : KindOk u 0 mulD.sp.ks) (hp : pcOk ⟨u, fnG⟩ mulD.sp.pre) : Keeps ⟨u, fnG⟩ mulD.sp.res mulDR := by
  obtain ⟨s0, s1, s2, s5, s6, s7, m1, e1, m2, e2⟩ := two_of hk hp
  have hm : 0 ≤ u 3 * u 8 := Int.mul_nonneg m1.1 m2.1
  have hm2 : u 3 * u 8 ≤ 9007199254740991 * 9007199254740991 := Int.mul_le_mul m1.2 m2.2 m2.1 (by omega)
  have hw : IntKind.u64.wrap (u 3 * u 8 / 18446744073709551616) * 18446744073709551616 + IntKind.u64.wrap (u 3 * u 8) = u 3 * u 8 := by
    rw [u64_w, u64_w]
    generalize u 3 * u 8 = p at *
    omega
  simp only [mulD, mulDR, Keeps, chain, unOne, List.length, Nat.beq, SameL, mulE, xorE, no, un, zeroE, f2, pk, sg, sgI, nan64', I64, M63, v, bi, den_iteP]
  simp only [E.prop, E.den, Bi.den, Un.den, nn01 s0, nn01 s5, hw]
  generalize fnG 4 _ _ _ = V
  rcases s0 with s0 | s0 <;> rcases s1 with s1 | s1 <;> rcases s2 with s2 | s2 <;> rcases s5 with s5 | s5 <;> rcases s6 with s6 | s6 <;> rcases s7 with s7 | s7 <;> simp (config := {contextual := true}) [s0, s1, s2, s5, s6, s7, b2i, iteP_true, iteP_false]
theorem mul_in {u : Nat → Int} (hk : KindOk u 0 mulD.sp.ks) (hp : pcOk ⟨u, fnG⟩ mulD.sp.pre) : mulD.sp.bds.ok ⟨u, fnG⟩ := fun p hq => by
  simp only [mulD, List.mem_singleton] at hq
  subst hq
  have : 0 ≤ mulE.den ⟨u, fnG⟩ ∧ mulE.den ⟨u, fnG⟩ ≤ 18446744073709551615 := by
    simp only [mulE, sg, sgI, bi, den_iteP]
    simp only [nan64', I64, M63, f2, E.den, Bi.den, den_iteP]
    have f := fn4_in ((v 3).den ⟨u, fnG⟩ * (v 8).den ⟨u, fnG⟩) ((v 4).den ⟨u, fnG⟩ + (v 9).den ⟨u, fnG⟩)
    refine iteP_in (fun _ => by omega) fun _ => iteP_in (fun _ => iteP_in (fun _ => by omega) fun _ => by omega) fun _ => ?_
    have g : 0 ≤ iteP (E.prop ⟨u, fnG⟩ xorE) 9223372036854775808 0 ∧ iteP (E.prop ⟨u, fnG⟩ xorE) 9223372036854775808 0 ≤ 9223372036854775808 := iteP_in (fun _ => by omega) fun _ => by omega
    omega
  exact ⟨fun _ h => by cases h; exact this.1, fun _ h => by cases h; exact this.2⟩
end Go.Proofs.Ytnodelimomljbaa.PlainRefB
