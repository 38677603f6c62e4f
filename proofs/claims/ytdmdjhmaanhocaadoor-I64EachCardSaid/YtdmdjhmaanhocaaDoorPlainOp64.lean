/- The operations' contracts, in numbers alone. No condition. -/
import Derived.Test.YtdmdjhmaanhocaaDoorRunOp64
import Derived.Test.YtdmdjhmaanhocaaDoorPlSame
namespace Go.Proofs.YtdmdjhmaanhocaaDoor.PlainOp64
open Go Go.Sx Go.Sx.Door Go.Proofs.YtdmdjhmaanhocaaDoor.RunOp64

theorem unOne2 (a b : Option IntKind × E) (vs : List V) : unOne [a, b].length (.tup vs) = vs := rfl
theorem den_tr_lt (ρ : Env) (a b : E) : (tr (bi .lt a b)).den ρ = if a.den ρ < b.den ρ then 1 else 0 := by
  simp only [tr, bi, E.den, Bi.den, b2i_ne, decide_eq_true_eq]
theorem den_tr_le (ρ : Env) (a b : E) : (tr (bi .le a b)).den ρ = if a.den ρ ≤ b.den ρ then 1 else 0 := by
  simp only [tr, bi, E.den, Bi.den, b2i_ne, decide_eq_true_eq]
theorem den_tr_eq (ρ : Env) (a b : E) : (tr (bi .eq a b)).den ρ = if a.den ρ = b.den ρ then 1 else 0 := by
  simp only [tr, bi, E.den, Bi.den, b2i_ne, beq_iff_eq]
theorem den_tr_ne (ρ : Env) (a b : E) : (tr (no (bi .eq a b))).den ρ = if a.den ρ = b.den ρ then 0 else 1 := by
  simp only [tr, bi, no, E.den, Un.den, Bi.den, b2i_ne]
  by_cases h : a.den ρ = b.den ρ <;> simp [h, b2i]
set_option linter.unusedSimpArgs false
theorem den_min (ρ : Env) (a b : E) : (E.ite (.bin .lt a b) a b).den ρ = min (a.den ρ) (b.den ρ) := by
  simp only [E.den, Bi.den, b2i_ne, decide_eq_true_eq]
  split <;> omega
theorem ctz_min64 (x : Int) : min (fnT 1 (IntKind.u64.wrap x) 64 0) 64 = fnT 11 x 64 0 := by
  rw [← ctz64_same x]; simp only [b2i_ne, decide_eq_true_eq]; split <;> omega
theorem unV64_den (ρ : Env) : unV64.den ρ = (selF [(80, tr (bi .eq (v 1) (.lit 0))), (121, .fn 10 (v 1) (.lit 64) (.lit 0)), (122, .fn 11 (v 1) (.lit 64) (.lit 0)), (123, .fn 12 (v 1) (.lit 64) (.lit 0))] (.lit 0) (ρ.v 0)).den ρ := den_sel _ _ _
theorem unE64_den (ρ : Env) : unE64.den ρ = (selF [(80, .lit 0), (121, .lit 0), (122, .lit 0), (123, .lit 0)] (.lit 300) (ρ.v 0)).den ρ := den_sel _ _ _
theorem ua_plain (u : Nat → Int) : Keeps ⟨u, fnT⟩ (unSp64 40).res uaR := by
  simp only [unSp64, uaR, Keeps, chain, unOne2, SameL, E.prop, ↓den_min, E.den, Bi.den, Un.den, true_and, and_true, unV64_den, unE64_den, clz64_same, ctz_min64, pop64_same]
  refine ⟨?_, ?_, ?_, ?_, ?_, ?_⟩
  all_goals (intros; simp_all [selF, E.den, v, den_tr_eq])
theorem ub_plain (u : Nat → Int) : Keeps ⟨u, fnT⟩ (unSp64 41).res ubR := by
  simp only [unSp64, ubR, Keeps, chain, unOne2, SameL, E.prop, E.den, Bi.den, Un.den, true_and, and_true, unV64_den, unE64_den]
  refine ⟨?_, ?_, ?_, ?_, ?_, ?_⟩
  all_goals (intros; simp_all [selF, E.den, v, den_tr_eq])
theorem bb_plain (u : Nat → Int) (hk : KindOk u 0 ((binSp64 43)).ks) : Keeps ⟨u, fnT⟩ ((binSp64 43)).res bbR := by
  simp only [binSp64, bbR, Keeps, chain, unOne2, SameL, E.prop, E.den, Bi.den, Un.den, true_and, and_true, binV64_den, binE64_den, i64_bits, u64_bits]
  have inj : u 1 = u 2 ∨ ¬ IntKind.u64.wrap (u 1) = IntKind.u64.wrap (u 2) := by
    have h1 : -9223372036854775808 ≤ u 1 ∧ u 1 ≤ 9223372036854775807 := of_i64 hk.2.1
    have h2 : -9223372036854775808 ≤ u 2 ∧ u 2 ≤ 9223372036854775807 := of_i64 hk.2.2.1
    rw [u64_wrap, u64_wrap]; omega
  refine ⟨?_, ?_, ?_, ?_, ?_, ?_, ?_, ?_, ?_, ?_, ?_, ?_, ?_, ?_, ?_, ?_, ?_, ?_, ?_, ?_, ?_, ?_, ?_, ?_, ?_, ?_, ?_, ?_, ?_, ?_, ?_, ?_, ?_, ?_, ?_, ?_, ?_, ?_, ?_, ?_, ?_, ?_, ?_, ?_, ?_, ?_⟩
  · intros
    have h : u 0 = 81 := by omega
    have e1 : selF valL64 (.lit 0) 81 = tr (bi .eq (v 1) (v 2)) := rfl
    have e2 : selF errL64 (.lit 300) 81 = .lit 0 := rfl
    simp only [h, e1, e2, den_tr_lt, den_tr_le, den_tr_eq, den_tr_ne]
    clear e1 e2
    simp_all [bi, no, Sx.Door.u64, Sx.Door.i64, un, v, k64, and64, div64, E.den, Bi.den, Un.den, b2i, i64_bits, u64_bits, or_zero, fn14_zero, fn3_64]
    all_goals (try (first | omega | exact congrArg _ (fn3_mod (by omega))))
  · intros
    have h : u 0 = 81 := by omega
    have e1 : selF valL64 (.lit 0) 81 = tr (bi .eq (v 1) (v 2)) := rfl
    have e2 : selF errL64 (.lit 300) 81 = .lit 0 := rfl
    simp only [h, e1, e2, den_tr_lt, den_tr_le, den_tr_eq, den_tr_ne]
    clear e1 e2
    simp_all [bi, no, Sx.Door.u64, Sx.Door.i64, un, v, k64, and64, div64, E.den, Bi.den, Un.den, b2i, i64_bits, u64_bits, or_zero, fn14_zero, fn3_64]
    all_goals (try (first | omega | exact congrArg _ (fn3_mod (by omega))))
  · intros
    have h : u 0 = 82 := by omega
    have e1 : selF valL64 (.lit 0) 82 = tr (no (bi .eq (v 1) (v 2))) := rfl
    have e2 : selF errL64 (.lit 300) 82 = .lit 0 := rfl
    simp only [h, e1, e2, den_tr_lt, den_tr_le, den_tr_eq, den_tr_ne]
    clear e1 e2
    simp_all [bi, no, Sx.Door.u64, Sx.Door.i64, un, v, k64, and64, div64, E.den, Bi.den, Un.den, b2i, i64_bits, u64_bits, or_zero, fn14_zero, fn3_64]
    all_goals (try (first | omega | exact congrArg _ (fn3_mod (by omega))))
  · intros
    have h : u 0 = 82 := by omega
    have e1 : selF valL64 (.lit 0) 82 = tr (no (bi .eq (v 1) (v 2))) := rfl
    have e2 : selF errL64 (.lit 300) 82 = .lit 0 := rfl
    simp only [h, e1, e2, den_tr_lt, den_tr_le, den_tr_eq, den_tr_ne]
    clear e1 e2
    simp_all [bi, no, Sx.Door.u64, Sx.Door.i64, un, v, k64, and64, div64, E.den, Bi.den, Un.den, b2i, i64_bits, u64_bits, or_zero, fn14_zero, fn3_64]
    all_goals (try (first | omega | exact congrArg _ (fn3_mod (by omega))))
  · intros
    have h : u 0 = 83 := by omega
    have e1 : selF valL64 (.lit 0) 83 = tr (bi .lt (v 1) (v 2)) := rfl
    have e2 : selF errL64 (.lit 300) 83 = .lit 0 := rfl
    simp only [h, e1, e2, den_tr_lt, den_tr_le, den_tr_eq, den_tr_ne]
    clear e1 e2
    simp_all [bi, no, Sx.Door.u64, Sx.Door.i64, un, v, k64, and64, div64, E.den, Bi.den, Un.den, b2i, i64_bits, u64_bits, or_zero, fn14_zero, fn3_64]
    all_goals (try (first | omega | exact congrArg _ (fn3_mod (by omega))))
  · intros
    have h : u 0 = 83 := by omega
    have e1 : selF valL64 (.lit 0) 83 = tr (bi .lt (v 1) (v 2)) := rfl
    have e2 : selF errL64 (.lit 300) 83 = .lit 0 := rfl
    simp only [h, e1, e2, den_tr_lt, den_tr_le, den_tr_eq, den_tr_ne]
    clear e1 e2
    simp_all [bi, no, Sx.Door.u64, Sx.Door.i64, un, v, k64, and64, div64, E.den, Bi.den, Un.den, b2i, i64_bits, u64_bits, or_zero, fn14_zero, fn3_64]
    all_goals (try (first | omega | exact congrArg _ (fn3_mod (by omega))))
  · intros
    have h : u 0 = 84 := by omega
    have e1 : selF valL64 (.lit 0) 84 = tr (bi .lt (u64 (v 1)) (u64 (v 2))) := rfl
    have e2 : selF errL64 (.lit 300) 84 = .lit 0 := rfl
    simp only [h, e1, e2, den_tr_lt, den_tr_le, den_tr_eq, den_tr_ne]
    clear e1 e2
    simp_all [bi, no, Sx.Door.u64, Sx.Door.i64, un, v, k64, and64, div64, E.den, Bi.den, Un.den, b2i, i64_bits, u64_bits, or_zero, fn14_zero, fn3_64]
    all_goals (try (first | omega | exact congrArg _ (fn3_mod (by omega))))
  · intros
    have h : u 0 = 84 := by omega
    have e1 : selF valL64 (.lit 0) 84 = tr (bi .lt (u64 (v 1)) (u64 (v 2))) := rfl
    have e2 : selF errL64 (.lit 300) 84 = .lit 0 := rfl
    simp only [h, e1, e2, den_tr_lt, den_tr_le, den_tr_eq, den_tr_ne]
    clear e1 e2
    simp_all [bi, no, Sx.Door.u64, Sx.Door.i64, un, v, k64, and64, div64, E.den, Bi.den, Un.den, b2i, i64_bits, u64_bits, or_zero, fn14_zero, fn3_64]
    all_goals (try (first | omega | exact congrArg _ (fn3_mod (by omega))))
  · intros
    have h : u 0 = 85 := by omega
    have e1 : selF valL64 (.lit 0) 85 = tr (bi .lt (v 2) (v 1)) := rfl
    have e2 : selF errL64 (.lit 300) 85 = .lit 0 := rfl
    simp only [h, e1, e2, den_tr_lt, den_tr_le, den_tr_eq, den_tr_ne]
    clear e1 e2
    simp_all [bi, no, Sx.Door.u64, Sx.Door.i64, un, v, k64, and64, div64, E.den, Bi.den, Un.den, b2i, i64_bits, u64_bits, or_zero, fn14_zero, fn3_64]
    all_goals (try (first | omega | exact congrArg _ (fn3_mod (by omega))))
  · intros
    have h : u 0 = 85 := by omega
    have e1 : selF valL64 (.lit 0) 85 = tr (bi .lt (v 2) (v 1)) := rfl
    have e2 : selF errL64 (.lit 300) 85 = .lit 0 := rfl
    simp only [h, e1, e2, den_tr_lt, den_tr_le, den_tr_eq, den_tr_ne]
    clear e1 e2
    simp_all [bi, no, Sx.Door.u64, Sx.Door.i64, un, v, k64, and64, div64, E.den, Bi.den, Un.den, b2i, i64_bits, u64_bits, or_zero, fn14_zero, fn3_64]
    all_goals (try (first | omega | exact congrArg _ (fn3_mod (by omega))))
  · intros
    have h : u 0 = 85 := by omega
    have e1 : selF valL64 (.lit 0) 85 = tr (bi .lt (v 2) (v 1)) := rfl
    have e2 : selF errL64 (.lit 300) 85 = .lit 0 := rfl
    simp only [h, e1, e2, den_tr_lt, den_tr_le, den_tr_eq, den_tr_ne]
    clear e1 e2
    simp_all [bi, no, Sx.Door.u64, Sx.Door.i64, un, v, k64, and64, div64, E.den, Bi.den, Un.den, b2i, i64_bits, u64_bits, or_zero, fn14_zero, fn3_64]
    all_goals (try (first | omega | exact congrArg _ (fn3_mod (by omega))))
  · intros
    have h : u 0 = 86 := by omega
    have e1 : selF valL64 (.lit 0) 86 = tr (bi .lt (u64 (v 2)) (u64 (v 1))) := rfl
    have e2 : selF errL64 (.lit 300) 86 = .lit 0 := rfl
    simp only [h, e1, e2, den_tr_lt, den_tr_le, den_tr_eq, den_tr_ne]
    clear e1 e2
    simp_all [bi, no, Sx.Door.u64, Sx.Door.i64, un, v, k64, and64, div64, E.den, Bi.den, Un.den, b2i, i64_bits, u64_bits, or_zero, fn14_zero, fn3_64]
    all_goals (try (first | omega | exact congrArg _ (fn3_mod (by omega))))
  · intros
    have h : u 0 = 86 := by omega
    have e1 : selF valL64 (.lit 0) 86 = tr (bi .lt (u64 (v 2)) (u64 (v 1))) := rfl
    have e2 : selF errL64 (.lit 300) 86 = .lit 0 := rfl
    simp only [h, e1, e2, den_tr_lt, den_tr_le, den_tr_eq, den_tr_ne]
    clear e1 e2
    simp_all [bi, no, Sx.Door.u64, Sx.Door.i64, un, v, k64, and64, div64, E.den, Bi.den, Un.den, b2i, i64_bits, u64_bits, or_zero, fn14_zero, fn3_64]
    all_goals (try (first | omega | exact congrArg _ (fn3_mod (by omega))))
  · intros
    have h : u 0 = 86 := by omega
    have e1 : selF valL64 (.lit 0) 86 = tr (bi .lt (u64 (v 2)) (u64 (v 1))) := rfl
    have e2 : selF errL64 (.lit 300) 86 = .lit 0 := rfl
    simp only [h, e1, e2, den_tr_lt, den_tr_le, den_tr_eq, den_tr_ne]
    clear e1 e2
    simp_all [bi, no, Sx.Door.u64, Sx.Door.i64, un, v, k64, and64, div64, E.den, Bi.den, Un.den, b2i, i64_bits, u64_bits, or_zero, fn14_zero, fn3_64]
    all_goals (try (first | omega | exact congrArg _ (fn3_mod (by omega))))
  · intros
    have h : u 0 = 87 := by omega
    have e1 : selF valL64 (.lit 0) 87 = tr (bi .le (v 1) (v 2)) := rfl
    have e2 : selF errL64 (.lit 300) 87 = .lit 0 := rfl
    simp only [h, e1, e2, den_tr_lt, den_tr_le, den_tr_eq, den_tr_ne]
    clear e1 e2
    simp_all [bi, no, Sx.Door.u64, Sx.Door.i64, un, v, k64, and64, div64, E.den, Bi.den, Un.den, b2i, i64_bits, u64_bits, or_zero, fn14_zero, fn3_64]
    all_goals (try (first | omega | exact congrArg _ (fn3_mod (by omega))))
  · intros
    have h : u 0 = 87 := by omega
    have e1 : selF valL64 (.lit 0) 87 = tr (bi .le (v 1) (v 2)) := rfl
    have e2 : selF errL64 (.lit 300) 87 = .lit 0 := rfl
    simp only [h, e1, e2, den_tr_lt, den_tr_le, den_tr_eq, den_tr_ne]
    clear e1 e2
    simp_all [bi, no, Sx.Door.u64, Sx.Door.i64, un, v, k64, and64, div64, E.den, Bi.den, Un.den, b2i, i64_bits, u64_bits, or_zero, fn14_zero, fn3_64]
    all_goals (try (first | omega | exact congrArg _ (fn3_mod (by omega))))
  · intros
    have h : u 0 = 87 := by omega
    have e1 : selF valL64 (.lit 0) 87 = tr (bi .le (v 1) (v 2)) := rfl
    have e2 : selF errL64 (.lit 300) 87 = .lit 0 := rfl
    simp only [h, e1, e2, den_tr_lt, den_tr_le, den_tr_eq, den_tr_ne]
    clear e1 e2
    simp_all [bi, no, Sx.Door.u64, Sx.Door.i64, un, v, k64, and64, div64, E.den, Bi.den, Un.den, b2i, i64_bits, u64_bits, or_zero, fn14_zero, fn3_64]
    all_goals (try (first | omega | exact congrArg _ (fn3_mod (by omega))))
  · intros
    have h : u 0 = 88 := by omega
    have e1 : selF valL64 (.lit 0) 88 = tr (bi .le (u64 (v 1)) (u64 (v 2))) := rfl
    have e2 : selF errL64 (.lit 300) 88 = .lit 0 := rfl
    simp only [h, e1, e2, den_tr_lt, den_tr_le, den_tr_eq, den_tr_ne]
    clear e1 e2
    simp_all [bi, no, Sx.Door.u64, Sx.Door.i64, un, v, k64, and64, div64, E.den, Bi.den, Un.den, b2i, i64_bits, u64_bits, or_zero, fn14_zero, fn3_64]
    all_goals (try (first | omega | exact congrArg _ (fn3_mod (by omega))))
  · intros
    have h : u 0 = 88 := by omega
    have e1 : selF valL64 (.lit 0) 88 = tr (bi .le (u64 (v 1)) (u64 (v 2))) := rfl
    have e2 : selF errL64 (.lit 300) 88 = .lit 0 := rfl
    simp only [h, e1, e2, den_tr_lt, den_tr_le, den_tr_eq, den_tr_ne]
    clear e1 e2
    simp_all [bi, no, Sx.Door.u64, Sx.Door.i64, un, v, k64, and64, div64, E.den, Bi.den, Un.den, b2i, i64_bits, u64_bits, or_zero, fn14_zero, fn3_64]
    all_goals (try (first | omega | exact congrArg _ (fn3_mod (by omega))))
  · intros
    have h : u 0 = 88 := by omega
    have e1 : selF valL64 (.lit 0) 88 = tr (bi .le (u64 (v 1)) (u64 (v 2))) := rfl
    have e2 : selF errL64 (.lit 300) 88 = .lit 0 := rfl
    simp only [h, e1, e2, den_tr_lt, den_tr_le, den_tr_eq, den_tr_ne]
    clear e1 e2
    simp_all [bi, no, Sx.Door.u64, Sx.Door.i64, un, v, k64, and64, div64, E.den, Bi.den, Un.den, b2i, i64_bits, u64_bits, or_zero, fn14_zero, fn3_64]
    all_goals (try (first | omega | exact congrArg _ (fn3_mod (by omega))))
  · intros
    have h : u 0 = 89 := by omega
    have e1 : selF valL64 (.lit 0) 89 = tr (bi .le (v 2) (v 1)) := rfl
    have e2 : selF errL64 (.lit 300) 89 = .lit 0 := rfl
    simp only [h, e1, e2, den_tr_lt, den_tr_le, den_tr_eq, den_tr_ne]
    clear e1 e2
    simp_all [bi, no, Sx.Door.u64, Sx.Door.i64, un, v, k64, and64, div64, E.den, Bi.den, Un.den, b2i, i64_bits, u64_bits, or_zero, fn14_zero, fn3_64]
    all_goals (try (first | omega | exact congrArg _ (fn3_mod (by omega))))
  · intros
    have h : u 0 = 89 := by omega
    have e1 : selF valL64 (.lit 0) 89 = tr (bi .le (v 2) (v 1)) := rfl
    have e2 : selF errL64 (.lit 300) 89 = .lit 0 := rfl
    simp only [h, e1, e2, den_tr_lt, den_tr_le, den_tr_eq, den_tr_ne]
    clear e1 e2
    simp_all [bi, no, Sx.Door.u64, Sx.Door.i64, un, v, k64, and64, div64, E.den, Bi.den, Un.den, b2i, i64_bits, u64_bits, or_zero, fn14_zero, fn3_64]
    all_goals (try (first | omega | exact congrArg _ (fn3_mod (by omega))))
  · intros
    have h : u 0 = 90 := by omega
    have e1 : selF valL64 (.lit 0) 90 = tr (bi .le (u64 (v 2)) (u64 (v 1))) := rfl
    have e2 : selF errL64 (.lit 300) 90 = .lit 0 := rfl
    simp only [h, e1, e2, den_tr_lt, den_tr_le, den_tr_eq, den_tr_ne]
    clear e1 e2
    simp_all [bi, no, Sx.Door.u64, Sx.Door.i64, un, v, k64, and64, div64, E.den, Bi.den, Un.den, b2i, i64_bits, u64_bits, or_zero, fn14_zero, fn3_64]
    all_goals (try (first | omega | exact congrArg _ (fn3_mod (by omega))))
  · intros
    have h : u 0 = 90 := by omega
    have e1 : selF valL64 (.lit 0) 90 = tr (bi .le (u64 (v 2)) (u64 (v 1))) := rfl
    have e2 : selF errL64 (.lit 300) 90 = .lit 0 := rfl
    simp only [h, e1, e2, den_tr_lt, den_tr_le, den_tr_eq, den_tr_ne]
    clear e1 e2
    simp_all [bi, no, Sx.Door.u64, Sx.Door.i64, un, v, k64, and64, div64, E.den, Bi.den, Un.den, b2i, i64_bits, u64_bits, or_zero, fn14_zero, fn3_64]
    all_goals (try (first | omega | exact congrArg _ (fn3_mod (by omega))))
  · intros
    rw [selF_none _ _ _ (by intro p hp; simp [keys] at hp; omega), selF_none _ _ _ (by intro p hp; simp [keys'] at hp; omega)]
    exact ⟨rfl, rfl⟩
  · intros
    rw [selF_none _ _ _ (by intro p hp; simp [keys] at hp; omega), selF_none _ _ _ (by intro p hp; simp [keys'] at hp; omega)]
    exact ⟨rfl, rfl⟩
  · intros
    rcases (show u 0 = 127 ∨ u 0 = 128 ∨ u 0 = 129 ∨ u 0 = 130 by omega) with h | h | h | h
    · have e1 : selF valL64 (.lit 0) 127 = .ite (bi .eq (v 2) (.lit 0)) (.lit 0) (.ite and64 (.lit 0) (i64 (bi .tdiv (v 1) (v 2)))) := rfl
      have e2 : selF errL64 (.lit 300) 127 = div64 127 := rfl
      simp only [h, e1, e2, den_tr_lt, den_tr_le, den_tr_eq, den_tr_ne]
      clear e1 e2
      simp_all [bi, no, Sx.Door.u64, Sx.Door.i64, un, v, k64, and64, div64, E.den, Bi.den, Un.den, b2i, i64_bits, u64_bits, or_zero, fn14_zero, fn3_64]
      all_goals (try (first | omega | exact congrArg _ (fn3_mod (by omega))))
    · have e1 : selF valL64 (.lit 0) 128 = .ite (bi .eq (v 2) (.lit 0)) (.lit 0) (i64 (bi .ediv (u64 (v 1)) (u64 (v 2)))) := rfl
      have e2 : selF errL64 (.lit 300) 128 = div64 128 := rfl
      simp only [h, e1, e2, den_tr_lt, den_tr_le, den_tr_eq, den_tr_ne]
      clear e1 e2
      simp_all [bi, no, Sx.Door.u64, Sx.Door.i64, un, v, k64, and64, div64, E.den, Bi.den, Un.den, b2i, i64_bits, u64_bits, or_zero, fn14_zero, fn3_64]
      all_goals (try (first | omega | exact congrArg _ (fn3_mod (by omega))))
    · have e1 : selF valL64 (.lit 0) 129 = .ite (bi .eq (v 2) (.lit 0)) (.lit 0) (bi .tmod (v 1) (v 2)) := rfl
      have e2 : selF errL64 (.lit 300) 129 = div64 129 := rfl
      simp only [h, e1, e2, den_tr_lt, den_tr_le, den_tr_eq, den_tr_ne]
      clear e1 e2
      simp_all [bi, no, Sx.Door.u64, Sx.Door.i64, un, v, k64, and64, div64, E.den, Bi.den, Un.den, b2i, i64_bits, u64_bits, or_zero, fn14_zero, fn3_64]
      all_goals (try (first | omega | exact congrArg _ (fn3_mod (by omega))))
    · have e1 : selF valL64 (.lit 0) 130 = .ite (bi .eq (v 2) (.lit 0)) (.lit 0) (i64 (bi .emod (u64 (v 1)) (u64 (v 2)))) := rfl
      have e2 : selF errL64 (.lit 300) 130 = div64 130 := rfl
      simp only [h, e1, e2, den_tr_lt, den_tr_le, den_tr_eq, den_tr_ne]
      clear e1 e2
      simp_all [bi, no, Sx.Door.u64, Sx.Door.i64, un, v, k64, and64, div64, E.den, Bi.den, Un.den, b2i, i64_bits, u64_bits, or_zero, fn14_zero, fn3_64]
      all_goals (try (first | omega | exact congrArg _ (fn3_mod (by omega))))
  · intros
    have h : u 0 = 127 := by omega
    have e1 : selF valL64 (.lit 0) 127 = .ite (bi .eq (v 2) (.lit 0)) (.lit 0) (.ite and64 (.lit 0) (i64 (bi .tdiv (v 1) (v 2)))) := rfl
    have e2 : selF errL64 (.lit 300) 127 = div64 127 := rfl
    simp only [h, e1, e2, den_tr_lt, den_tr_le, den_tr_eq, den_tr_ne]
    clear e1 e2
    simp_all [bi, no, Sx.Door.u64, Sx.Door.i64, un, v, k64, and64, div64, E.den, Bi.den, Un.den, b2i, i64_bits, u64_bits, or_zero, fn14_zero, fn3_64]
    all_goals (try (first | omega | exact congrArg _ (fn3_mod (by omega))))
  · intros
    have h : u 0 = 127 := by omega
    have e1 : selF valL64 (.lit 0) 127 = .ite (bi .eq (v 2) (.lit 0)) (.lit 0) (.ite and64 (.lit 0) (i64 (bi .tdiv (v 1) (v 2)))) := rfl
    have e2 : selF errL64 (.lit 300) 127 = div64 127 := rfl
    simp only [h, e1, e2, den_tr_lt, den_tr_le, den_tr_eq, den_tr_ne]
    clear e1 e2
    simp_all [bi, no, Sx.Door.u64, Sx.Door.i64, un, v, k64, and64, div64, E.den, Bi.den, Un.den, b2i, i64_bits, u64_bits, or_zero, fn14_zero, fn3_64]
    all_goals (try (first | omega | exact congrArg _ (fn3_mod (by omega))))
  · intros
    have h : u 0 = 127 := by omega
    have e1 : selF valL64 (.lit 0) 127 = .ite (bi .eq (v 2) (.lit 0)) (.lit 0) (.ite and64 (.lit 0) (i64 (bi .tdiv (v 1) (v 2)))) := rfl
    have e2 : selF errL64 (.lit 300) 127 = div64 127 := rfl
    simp only [h, e1, e2, den_tr_lt, den_tr_le, den_tr_eq, den_tr_ne]
    clear e1 e2
    simp_all [bi, no, Sx.Door.u64, Sx.Door.i64, un, v, k64, and64, div64, E.den, Bi.den, Un.den, b2i, i64_bits, u64_bits, or_zero, fn14_zero, fn3_64]
    all_goals (try (first | omega | exact congrArg _ (fn3_mod (by omega))))
  · intros
    have h : u 0 = 128 := by omega
    have e1 : selF valL64 (.lit 0) 128 = .ite (bi .eq (v 2) (.lit 0)) (.lit 0) (i64 (bi .ediv (u64 (v 1)) (u64 (v 2)))) := rfl
    have e2 : selF errL64 (.lit 300) 128 = div64 128 := rfl
    simp only [h, e1, e2, den_tr_lt, den_tr_le, den_tr_eq, den_tr_ne]
    clear e1 e2
    simp_all [bi, no, Sx.Door.u64, Sx.Door.i64, un, v, k64, and64, div64, E.den, Bi.den, Un.den, b2i, i64_bits, u64_bits, or_zero, fn14_zero, fn3_64]
    all_goals (try (first | omega | exact congrArg _ (fn3_mod (by omega))))
  · intros
    have h : u 0 = 129 := by omega
    have e1 : selF valL64 (.lit 0) 129 = .ite (bi .eq (v 2) (.lit 0)) (.lit 0) (bi .tmod (v 1) (v 2)) := rfl
    have e2 : selF errL64 (.lit 300) 129 = div64 129 := rfl
    simp only [h, e1, e2, den_tr_lt, den_tr_le, den_tr_eq, den_tr_ne]
    clear e1 e2
    simp_all [bi, no, Sx.Door.u64, Sx.Door.i64, un, v, k64, and64, div64, E.den, Bi.den, Un.den, b2i, i64_bits, u64_bits, or_zero, fn14_zero, fn3_64]
    all_goals (try (first | omega | exact congrArg _ (fn3_mod (by omega))))
  · intros
    have h : u 0 = 129 := by omega
    have e1 : selF valL64 (.lit 0) 129 = .ite (bi .eq (v 2) (.lit 0)) (.lit 0) (bi .tmod (v 1) (v 2)) := rfl
    have e2 : selF errL64 (.lit 300) 129 = div64 129 := rfl
    simp only [h, e1, e2, den_tr_lt, den_tr_le, den_tr_eq, den_tr_ne]
    clear e1 e2
    simp_all [bi, no, Sx.Door.u64, Sx.Door.i64, un, v, k64, and64, div64, E.den, Bi.den, Un.den, b2i, i64_bits, u64_bits, or_zero, fn14_zero, fn3_64]
    all_goals (try (first | omega | exact congrArg _ (fn3_mod (by omega))))
  · intros
    have h : u 0 = 130 := by omega
    have e1 : selF valL64 (.lit 0) 130 = .ite (bi .eq (v 2) (.lit 0)) (.lit 0) (i64 (bi .emod (u64 (v 1)) (u64 (v 2)))) := rfl
    have e2 : selF errL64 (.lit 300) 130 = div64 130 := rfl
    simp only [h, e1, e2, den_tr_lt, den_tr_le, den_tr_eq, den_tr_ne]
    clear e1 e2
    simp_all [bi, no, Sx.Door.u64, Sx.Door.i64, un, v, k64, and64, div64, E.den, Bi.den, Un.den, b2i, i64_bits, u64_bits, or_zero, fn14_zero, fn3_64]
    all_goals (try (first | omega | exact congrArg _ (fn3_mod (by omega))))
  · intros
    have h : u 0 = 131 := by omega
    have e1 : selF valL64 (.lit 0) 131 = bi (.bits .and .i64) (v 1) (v 2) := rfl
    have e2 : selF errL64 (.lit 300) 131 = .lit 0 := rfl
    simp only [h, e1, e2, den_tr_lt, den_tr_le, den_tr_eq, den_tr_ne]
    clear e1 e2
    simp_all [bi, no, Sx.Door.u64, Sx.Door.i64, un, v, k64, and64, div64, E.den, Bi.den, Un.den, b2i, i64_bits, u64_bits, or_zero, fn14_zero, fn3_64]
    all_goals (try (first | omega | exact congrArg _ (fn3_mod (by omega))))
  · intros
    have h : u 0 = 132 := by omega
    have e1 : selF valL64 (.lit 0) 132 = bi (.bits .or .i64) (v 1) (v 2) := rfl
    have e2 : selF errL64 (.lit 300) 132 = .lit 0 := rfl
    simp only [h, e1, e2, den_tr_lt, den_tr_le, den_tr_eq, den_tr_ne]
    clear e1 e2
    simp_all [bi, no, Sx.Door.u64, Sx.Door.i64, un, v, k64, and64, div64, E.den, Bi.den, Un.den, b2i, i64_bits, u64_bits, or_zero, fn14_zero, fn3_64]
    all_goals (try (first | omega | exact congrArg _ (fn3_mod (by omega))))
  · intros
    have h : u 0 = 133 := by omega
    have e1 : selF valL64 (.lit 0) 133 = bi (.bits .xor .i64) (v 1) (v 2) := rfl
    have e2 : selF errL64 (.lit 300) 133 = .lit 0 := rfl
    simp only [h, e1, e2, den_tr_lt, den_tr_le, den_tr_eq, den_tr_ne]
    clear e1 e2
    simp_all [bi, no, Sx.Door.u64, Sx.Door.i64, un, v, k64, and64, div64, E.den, Bi.den, Un.den, b2i, i64_bits, u64_bits, or_zero, fn14_zero, fn3_64]
    all_goals (try (first | omega | exact congrArg _ (fn3_mod (by omega))))
  · intros
    have h : u 0 = 134 := by omega
    have e1 : selF valL64 (.lit 0) 134 = bi (.shl .i64) (v 1) k64 := rfl
    have e2 : selF errL64 (.lit 300) 134 = .lit 0 := rfl
    simp only [h, e1, e2, den_tr_lt, den_tr_le, den_tr_eq, den_tr_ne]
    clear e1 e2
    simp_all [bi, no, Sx.Door.u64, Sx.Door.i64, un, v, k64, and64, div64, E.den, Bi.den, Un.den, b2i, i64_bits, u64_bits, or_zero, fn14_zero, fn3_64]
    all_goals (try (first | omega | exact congrArg _ (fn3_mod (by omega))))
  · intros
    have h : u 0 = 135 := by omega
    have e1 : selF valL64 (.lit 0) 135 = bi (.shr .i64) (v 1) k64 := rfl
    have e2 : selF errL64 (.lit 300) 135 = .lit 0 := rfl
    simp only [h, e1, e2, den_tr_lt, den_tr_le, den_tr_eq, den_tr_ne]
    clear e1 e2
    simp_all [bi, no, Sx.Door.u64, Sx.Door.i64, un, v, k64, and64, div64, E.den, Bi.den, Un.den, b2i, i64_bits, u64_bits, or_zero, fn14_zero, fn3_64]
    all_goals (try (first | omega | exact congrArg _ (fn3_mod (by omega))))
  · intros
    have h : u 0 = 136 := by omega
    have e1 : selF valL64 (.lit 0) 136 = i64 (bi (.shr .u64) (u64 (v 1)) k64) := rfl
    have e2 : selF errL64 (.lit 300) 136 = .lit 0 := rfl
    simp only [h, e1, e2, den_tr_lt, den_tr_le, den_tr_eq, den_tr_ne]
    clear e1 e2
    simp_all [bi, no, Sx.Door.u64, Sx.Door.i64, un, v, k64, and64, div64, E.den, Bi.den, Un.den, b2i, i64_bits, u64_bits, or_zero, fn14_zero, fn3_64]
    all_goals (try (first | omega | exact congrArg _ (fn3_mod (by omega))))
  · intros
    have h : u 0 = 137 := by omega
    have e1 : selF valL64 (.lit 0) 137 = i64 (.fn 3 (v 1) (.lit 64) (v 2)) := rfl
    have e2 : selF errL64 (.lit 300) 137 = .lit 0 := rfl
    simp only [h, e1, e2, den_tr_lt, den_tr_le, den_tr_eq, den_tr_ne]
    clear e1 e2
    simp_all [bi, no, Sx.Door.u64, Sx.Door.i64, un, v, k64, and64, div64, E.den, Bi.den, Un.den, b2i, i64_bits, u64_bits, or_zero, fn14_zero, fn3_64]
    all_goals (try (first | omega | exact congrArg _ (fn3_mod (by omega))))
  · intros
    have h : u 0 = 138 := by omega
    have e1 : selF valL64 (.lit 0) 138 = i64 (.fn 3 (v 1) (.lit 64) (bi .sub (.lit 0) (v 2))) := rfl
    have e2 : selF errL64 (.lit 300) 138 = .lit 0 := rfl
    simp only [h, e1, e2, den_tr_lt, den_tr_le, den_tr_eq, den_tr_ne]
    clear e1 e2
    simp_all [bi, no, Sx.Door.u64, Sx.Door.i64, un, v, k64, and64, div64, E.den, Bi.den, Un.den, b2i, i64_bits, u64_bits, or_zero, fn14_zero, fn3_64]
    all_goals (try (first | omega | exact congrArg _ (fn3_mod (by omega))))
  · intros
    have h : u 0 = 124 := by omega
    have e1 : selF valL64 (.lit 0) 124 = i64 (bi .add (v 1) (v 2)) := rfl
    have e2 : selF errL64 (.lit 300) 124 = .lit 0 := rfl
    simp only [h, e1, e2, den_tr_lt, den_tr_le, den_tr_eq, den_tr_ne]
    clear e1 e2
    simp_all [bi, no, Sx.Door.u64, Sx.Door.i64, un, v, k64, and64, div64, E.den, Bi.den, Un.den, b2i, i64_bits, u64_bits, or_zero, fn14_zero, fn3_64]
    all_goals (try (first | omega | exact congrArg _ (fn3_mod (by omega))))
  · intros
    have h : u 0 = 125 := by omega
    have e1 : selF valL64 (.lit 0) 125 = i64 (bi .sub (v 1) (v 2)) := rfl
    have e2 : selF errL64 (.lit 300) 125 = .lit 0 := rfl
    simp only [h, e1, e2, den_tr_lt, den_tr_le, den_tr_eq, den_tr_ne]
    clear e1 e2
    simp_all [bi, no, Sx.Door.u64, Sx.Door.i64, un, v, k64, and64, div64, E.den, Bi.den, Un.den, b2i, i64_bits, u64_bits, or_zero, fn14_zero, fn3_64]
    all_goals (try (first | omega | exact congrArg _ (fn3_mod (by omega))))
  · intros
    have h : u 0 = 126 := by omega
    have e1 : selF valL64 (.lit 0) 126 = i64 (bi .mul (v 1) (v 2)) := rfl
    have e2 : selF errL64 (.lit 300) 126 = .lit 0 := rfl
    simp only [h, e1, e2, den_tr_lt, den_tr_le, den_tr_eq, den_tr_ne]
    clear e1 e2
    simp_all [bi, no, Sx.Door.u64, Sx.Door.i64, un, v, k64, and64, div64, E.den, Bi.den, Un.den, b2i, i64_bits, u64_bits, or_zero, fn14_zero, fn3_64]
    all_goals (try (first | omega | exact congrArg _ (fn3_mod (by omega))))
  · intros
    rw [selF_none _ _ _ (by intro p hp; simp [keys] at hp; omega), selF_none _ _ _ (by intro p hp; simp [keys'] at hp; omega)]
    exact ⟨rfl, rfl⟩

theorem ba_plain (u : Nat → Int) (hk : KindOk u 0 ((binSp64 42)).ks) : Keeps ⟨u, fnT⟩ ((binSp64 42)).res baR := by
  simp only [binSp64, baR, Keeps, chain, unOne2, SameL, E.prop, E.den, Bi.den, Un.den, true_and, and_true, binV64_den, binE64_den, i64_bits, u64_bits]
  have inj : u 1 = u 2 ∨ ¬ IntKind.u64.wrap (u 1) = IntKind.u64.wrap (u 2) := by
    have h1 : -9223372036854775808 ≤ u 1 ∧ u 1 ≤ 9223372036854775807 := of_i64 hk.2.1
    have h2 : -9223372036854775808 ≤ u 2 ∧ u 2 ≤ 9223372036854775807 := of_i64 hk.2.2.1
    rw [u64_wrap, u64_wrap]; omega
  refine ⟨?_, ?_, ?_, ?_, ?_, ?_, ?_, ?_, ?_, ?_, ?_, ?_, ?_, ?_, ?_, ?_, ?_, ?_, ?_, ?_, ?_, ?_, ?_, ?_, ?_, ?_, ?_, ?_, ?_, ?_, ?_, ?_, ?_, ?_, ?_, ?_, ?_, ?_, ?_, ?_, ?_, ?_, ?_, ?_, ?_, ?_, ?_, ?_, ?_, ?_, ?_, ?_, ?_, ?_, ?_, ?_, ?_⟩
  · intros
    exfalso; omega
  · intros
    exfalso; omega
  · intros
    have h : u 0 = 84 := by omega
    have e1 : selF valL64 (.lit 0) 84 = tr (bi .lt (u64 (v 1)) (u64 (v 2))) := rfl
    have e2 : selF errL64 (.lit 300) 84 = .lit 0 := rfl
    simp only [h, e1, e2, den_tr_lt, den_tr_le, den_tr_eq, den_tr_ne]
    clear e1 e2
    simp_all [bi, no, Sx.Door.u64, Sx.Door.i64, un, v, k64, and64, div64, E.den, Bi.den, Un.den, b2i, i64_bits, u64_bits, or_zero, fn14_zero, fn3_64]
    all_goals (try (first | omega | exact congrArg _ (fn3_mod (by omega))))
  · intros
    have h : u 0 = 84 := by omega
    have e1 : selF valL64 (.lit 0) 84 = tr (bi .lt (u64 (v 1)) (u64 (v 2))) := rfl
    have e2 : selF errL64 (.lit 300) 84 = .lit 0 := rfl
    simp only [h, e1, e2, den_tr_lt, den_tr_le, den_tr_eq, den_tr_ne]
    clear e1 e2
    simp_all [bi, no, Sx.Door.u64, Sx.Door.i64, un, v, k64, and64, div64, E.den, Bi.den, Un.den, b2i, i64_bits, u64_bits, or_zero, fn14_zero, fn3_64]
    all_goals (try (first | omega | exact congrArg _ (fn3_mod (by omega))))
  · intros
    exfalso; omega
  · intros
    exfalso; omega
  · intros
    have h : u 0 = 86 := by omega
    have e1 : selF valL64 (.lit 0) 86 = tr (bi .lt (u64 (v 2)) (u64 (v 1))) := rfl
    have e2 : selF errL64 (.lit 300) 86 = .lit 0 := rfl
    simp only [h, e1, e2, den_tr_lt, den_tr_le, den_tr_eq, den_tr_ne]
    clear e1 e2
    simp_all [bi, no, Sx.Door.u64, Sx.Door.i64, un, v, k64, and64, div64, E.den, Bi.den, Un.den, b2i, i64_bits, u64_bits, or_zero, fn14_zero, fn3_64]
    all_goals (try (first | omega | exact congrArg _ (fn3_mod (by omega))))
  · intros
    have h : u 0 = 86 := by omega
    have e1 : selF valL64 (.lit 0) 86 = tr (bi .lt (u64 (v 2)) (u64 (v 1))) := rfl
    have e2 : selF errL64 (.lit 300) 86 = .lit 0 := rfl
    simp only [h, e1, e2, den_tr_lt, den_tr_le, den_tr_eq, den_tr_ne]
    clear e1 e2
    simp_all [bi, no, Sx.Door.u64, Sx.Door.i64, un, v, k64, and64, div64, E.den, Bi.den, Un.den, b2i, i64_bits, u64_bits, or_zero, fn14_zero, fn3_64]
    all_goals (try (first | omega | exact congrArg _ (fn3_mod (by omega))))
  · intros
    exfalso; omega
  · intros
    exfalso; omega
  · intros
    have h : u 0 = 88 := by omega
    have e1 : selF valL64 (.lit 0) 88 = tr (bi .le (u64 (v 1)) (u64 (v 2))) := rfl
    have e2 : selF errL64 (.lit 300) 88 = .lit 0 := rfl
    simp only [h, e1, e2, den_tr_lt, den_tr_le, den_tr_eq, den_tr_ne]
    clear e1 e2
    simp_all [bi, no, Sx.Door.u64, Sx.Door.i64, un, v, k64, and64, div64, E.den, Bi.den, Un.den, b2i, i64_bits, u64_bits, or_zero, fn14_zero, fn3_64]
    all_goals (try (first | omega | exact congrArg _ (fn3_mod (by omega))))
  · intros
    have h : u 0 = 88 := by omega
    have e1 : selF valL64 (.lit 0) 88 = tr (bi .le (u64 (v 1)) (u64 (v 2))) := rfl
    have e2 : selF errL64 (.lit 300) 88 = .lit 0 := rfl
    simp only [h, e1, e2, den_tr_lt, den_tr_le, den_tr_eq, den_tr_ne]
    clear e1 e2
    simp_all [bi, no, Sx.Door.u64, Sx.Door.i64, un, v, k64, and64, div64, E.den, Bi.den, Un.den, b2i, i64_bits, u64_bits, or_zero, fn14_zero, fn3_64]
    all_goals (try (first | omega | exact congrArg _ (fn3_mod (by omega))))
  · intros
    have h : u 0 = 90 := by omega
    have e1 : selF valL64 (.lit 0) 90 = tr (bi .le (u64 (v 2)) (u64 (v 1))) := rfl
    have e2 : selF errL64 (.lit 300) 90 = .lit 0 := rfl
    simp only [h, e1, e2, den_tr_lt, den_tr_le, den_tr_eq, den_tr_ne]
    clear e1 e2
    simp_all [bi, no, Sx.Door.u64, Sx.Door.i64, un, v, k64, and64, div64, E.den, Bi.den, Un.den, b2i, i64_bits, u64_bits, or_zero, fn14_zero, fn3_64]
    all_goals (try (first | omega | exact congrArg _ (fn3_mod (by omega))))
  · intros
    have h : u 0 = 90 := by omega
    have e1 : selF valL64 (.lit 0) 90 = tr (bi .le (u64 (v 2)) (u64 (v 1))) := rfl
    have e2 : selF errL64 (.lit 300) 90 = .lit 0 := rfl
    simp only [h, e1, e2, den_tr_lt, den_tr_le, den_tr_eq, den_tr_ne]
    clear e1 e2
    simp_all [bi, no, Sx.Door.u64, Sx.Door.i64, un, v, k64, and64, div64, E.den, Bi.den, Un.den, b2i, i64_bits, u64_bits, or_zero, fn14_zero, fn3_64]
    all_goals (try (first | omega | exact congrArg _ (fn3_mod (by omega))))
  · intros
    have h : u 0 = 83 := by omega
    have e1 : selF valL64 (.lit 0) 83 = tr (bi .lt (v 1) (v 2)) := rfl
    have e2 : selF errL64 (.lit 300) 83 = .lit 0 := rfl
    simp only [h, e1, e2, den_tr_lt, den_tr_le, den_tr_eq, den_tr_ne]
    clear e1 e2
    simp_all [bi, no, Sx.Door.u64, Sx.Door.i64, un, v, k64, and64, div64, E.den, Bi.den, Un.den, b2i, i64_bits, u64_bits, or_zero, fn14_zero, fn3_64]
    all_goals (try (first | omega | exact congrArg _ (fn3_mod (by omega))))
  · intros
    have h : u 0 = 83 := by omega
    have e1 : selF valL64 (.lit 0) 83 = tr (bi .lt (v 1) (v 2)) := rfl
    have e2 : selF errL64 (.lit 300) 83 = .lit 0 := rfl
    simp only [h, e1, e2, den_tr_lt, den_tr_le, den_tr_eq, den_tr_ne]
    clear e1 e2
    simp_all [bi, no, Sx.Door.u64, Sx.Door.i64, un, v, k64, and64, div64, E.den, Bi.den, Un.den, b2i, i64_bits, u64_bits, or_zero, fn14_zero, fn3_64]
    all_goals (try (first | omega | exact congrArg _ (fn3_mod (by omega))))
  · intros
    exfalso; omega
  · intros
    exfalso; omega
  · intros
    have h : u 0 = 85 := by omega
    have e1 : selF valL64 (.lit 0) 85 = tr (bi .lt (v 2) (v 1)) := rfl
    have e2 : selF errL64 (.lit 300) 85 = .lit 0 := rfl
    simp only [h, e1, e2, den_tr_lt, den_tr_le, den_tr_eq, den_tr_ne]
    clear e1 e2
    simp_all [bi, no, Sx.Door.u64, Sx.Door.i64, un, v, k64, and64, div64, E.den, Bi.den, Un.den, b2i, i64_bits, u64_bits, or_zero, fn14_zero, fn3_64]
    all_goals (try (first | omega | exact congrArg _ (fn3_mod (by omega))))
  · intros
    have h : u 0 = 85 := by omega
    have e1 : selF valL64 (.lit 0) 85 = tr (bi .lt (v 2) (v 1)) := rfl
    have e2 : selF errL64 (.lit 300) 85 = .lit 0 := rfl
    simp only [h, e1, e2, den_tr_lt, den_tr_le, den_tr_eq, den_tr_ne]
    clear e1 e2
    simp_all [bi, no, Sx.Door.u64, Sx.Door.i64, un, v, k64, and64, div64, E.den, Bi.den, Un.den, b2i, i64_bits, u64_bits, or_zero, fn14_zero, fn3_64]
    all_goals (try (first | omega | exact congrArg _ (fn3_mod (by omega))))
  · intros
    exfalso; omega
  · intros
    exfalso; omega
  · intros
    have h : u 0 = 87 := by omega
    have e1 : selF valL64 (.lit 0) 87 = tr (bi .le (v 1) (v 2)) := rfl
    have e2 : selF errL64 (.lit 300) 87 = .lit 0 := rfl
    simp only [h, e1, e2, den_tr_lt, den_tr_le, den_tr_eq, den_tr_ne]
    clear e1 e2
    simp_all [bi, no, Sx.Door.u64, Sx.Door.i64, un, v, k64, and64, div64, E.den, Bi.den, Un.den, b2i, i64_bits, u64_bits, or_zero, fn14_zero, fn3_64]
    all_goals (try (first | omega | exact congrArg _ (fn3_mod (by omega))))
  · intros
    have h : u 0 = 87 := by omega
    have e1 : selF valL64 (.lit 0) 87 = tr (bi .le (v 1) (v 2)) := rfl
    have e2 : selF errL64 (.lit 300) 87 = .lit 0 := rfl
    simp only [h, e1, e2, den_tr_lt, den_tr_le, den_tr_eq, den_tr_ne]
    clear e1 e2
    simp_all [bi, no, Sx.Door.u64, Sx.Door.i64, un, v, k64, and64, div64, E.den, Bi.den, Un.den, b2i, i64_bits, u64_bits, or_zero, fn14_zero, fn3_64]
    all_goals (try (first | omega | exact congrArg _ (fn3_mod (by omega))))
  · intros
    exfalso; omega
  · intros
    exfalso; omega
  · intros
    have h : u 0 = 89 := by omega
    have e1 : selF valL64 (.lit 0) 89 = tr (bi .le (v 2) (v 1)) := rfl
    have e2 : selF errL64 (.lit 300) 89 = .lit 0 := rfl
    simp only [h, e1, e2, den_tr_lt, den_tr_le, den_tr_eq, den_tr_ne]
    clear e1 e2
    simp_all [bi, no, Sx.Door.u64, Sx.Door.i64, un, v, k64, and64, div64, E.den, Bi.den, Un.den, b2i, i64_bits, u64_bits, or_zero, fn14_zero, fn3_64]
    all_goals (try (first | omega | exact congrArg _ (fn3_mod (by omega))))
  · intros
    have h : u 0 = 89 := by omega
    have e1 : selF valL64 (.lit 0) 89 = tr (bi .le (v 2) (v 1)) := rfl
    have e2 : selF errL64 (.lit 300) 89 = .lit 0 := rfl
    simp only [h, e1, e2, den_tr_lt, den_tr_le, den_tr_eq, den_tr_ne]
    clear e1 e2
    simp_all [bi, no, Sx.Door.u64, Sx.Door.i64, un, v, k64, and64, div64, E.den, Bi.den, Un.den, b2i, i64_bits, u64_bits, or_zero, fn14_zero, fn3_64]
    all_goals (try (first | omega | exact congrArg _ (fn3_mod (by omega))))
  · intros
    have h : u 0 = 81 := by omega
    have e1 : selF valL64 (.lit 0) 81 = tr (bi .eq (v 1) (v 2)) := rfl
    have e2 : selF errL64 (.lit 300) 81 = .lit 0 := rfl
    simp only [h, e1, e2, den_tr_lt, den_tr_le, den_tr_eq, den_tr_ne]
    clear e1 e2
    simp_all [bi, no, Sx.Door.u64, Sx.Door.i64, un, v, k64, and64, div64, E.den, Bi.den, Un.den, b2i, i64_bits, u64_bits, or_zero, fn14_zero, fn3_64]
    all_goals (try (first | omega | exact congrArg _ (fn3_mod (by omega))))
  · intros
    have h : u 0 = 81 := by omega
    have e1 : selF valL64 (.lit 0) 81 = tr (bi .eq (v 1) (v 2)) := rfl
    have e2 : selF errL64 (.lit 300) 81 = .lit 0 := rfl
    simp only [h, e1, e2, den_tr_lt, den_tr_le, den_tr_eq, den_tr_ne]
    clear e1 e2
    simp_all [bi, no, Sx.Door.u64, Sx.Door.i64, un, v, k64, and64, div64, E.den, Bi.den, Un.den, b2i, i64_bits, u64_bits, or_zero, fn14_zero, fn3_64]
    all_goals (try (first | omega | exact congrArg _ (fn3_mod (by omega))))
  · intros
    have h : u 0 = 82 := by omega
    have e1 : selF valL64 (.lit 0) 82 = tr (no (bi .eq (v 1) (v 2))) := rfl
    have e2 : selF errL64 (.lit 300) 82 = .lit 0 := rfl
    simp only [h, e1, e2, den_tr_lt, den_tr_le, den_tr_eq, den_tr_ne]
    clear e1 e2
    simp_all [bi, no, Sx.Door.u64, Sx.Door.i64, un, v, k64, and64, div64, E.den, Bi.den, Un.den, b2i, i64_bits, u64_bits, or_zero, fn14_zero, fn3_64]
    all_goals (try (first | omega | exact congrArg _ (fn3_mod (by omega))))
  · intros
    have h : u 0 = 82 := by omega
    have e1 : selF valL64 (.lit 0) 82 = tr (no (bi .eq (v 1) (v 2))) := rfl
    have e2 : selF errL64 (.lit 300) 82 = .lit 0 := rfl
    simp only [h, e1, e2, den_tr_lt, den_tr_le, den_tr_eq, den_tr_ne]
    clear e1 e2
    simp_all [bi, no, Sx.Door.u64, Sx.Door.i64, un, v, k64, and64, div64, E.den, Bi.den, Un.den, b2i, i64_bits, u64_bits, or_zero, fn14_zero, fn3_64]
    all_goals (try (first | omega | exact congrArg _ (fn3_mod (by omega))))
  · intros
    rcases (show u 0 = 127 ∨ u 0 = 128 ∨ u 0 = 129 ∨ u 0 = 130 by omega) with h | h | h | h
    · have e1 : selF valL64 (.lit 0) 127 = .ite (bi .eq (v 2) (.lit 0)) (.lit 0) (.ite and64 (.lit 0) (i64 (bi .tdiv (v 1) (v 2)))) := rfl
      have e2 : selF errL64 (.lit 300) 127 = div64 127 := rfl
      simp only [h, e1, e2, den_tr_lt, den_tr_le, den_tr_eq, den_tr_ne]
      clear e1 e2
      simp_all [bi, no, Sx.Door.u64, Sx.Door.i64, un, v, k64, and64, div64, E.den, Bi.den, Un.den, b2i, i64_bits, u64_bits, or_zero, fn14_zero, fn3_64]
      all_goals (try (first | omega | exact congrArg _ (fn3_mod (by omega))))
    · have e1 : selF valL64 (.lit 0) 128 = .ite (bi .eq (v 2) (.lit 0)) (.lit 0) (i64 (bi .ediv (u64 (v 1)) (u64 (v 2)))) := rfl
      have e2 : selF errL64 (.lit 300) 128 = div64 128 := rfl
      simp only [h, e1, e2, den_tr_lt, den_tr_le, den_tr_eq, den_tr_ne]
      clear e1 e2
      simp_all [bi, no, Sx.Door.u64, Sx.Door.i64, un, v, k64, and64, div64, E.den, Bi.den, Un.den, b2i, i64_bits, u64_bits, or_zero, fn14_zero, fn3_64]
      all_goals (try (first | omega | exact congrArg _ (fn3_mod (by omega))))
    · have e1 : selF valL64 (.lit 0) 129 = .ite (bi .eq (v 2) (.lit 0)) (.lit 0) (bi .tmod (v 1) (v 2)) := rfl
      have e2 : selF errL64 (.lit 300) 129 = div64 129 := rfl
      simp only [h, e1, e2, den_tr_lt, den_tr_le, den_tr_eq, den_tr_ne]
      clear e1 e2
      simp_all [bi, no, Sx.Door.u64, Sx.Door.i64, un, v, k64, and64, div64, E.den, Bi.den, Un.den, b2i, i64_bits, u64_bits, or_zero, fn14_zero, fn3_64]
      all_goals (try (first | omega | exact congrArg _ (fn3_mod (by omega))))
    · have e1 : selF valL64 (.lit 0) 130 = .ite (bi .eq (v 2) (.lit 0)) (.lit 0) (i64 (bi .emod (u64 (v 1)) (u64 (v 2)))) := rfl
      have e2 : selF errL64 (.lit 300) 130 = div64 130 := rfl
      simp only [h, e1, e2, den_tr_lt, den_tr_le, den_tr_eq, den_tr_ne]
      clear e1 e2
      simp_all [bi, no, Sx.Door.u64, Sx.Door.i64, un, v, k64, and64, div64, E.den, Bi.den, Un.den, b2i, i64_bits, u64_bits, or_zero, fn14_zero, fn3_64]
      all_goals (try (first | omega | exact congrArg _ (fn3_mod (by omega))))
  · intros
    have h : u 0 = 127 := by omega
    have e1 : selF valL64 (.lit 0) 127 = .ite (bi .eq (v 2) (.lit 0)) (.lit 0) (.ite and64 (.lit 0) (i64 (bi .tdiv (v 1) (v 2)))) := rfl
    have e2 : selF errL64 (.lit 300) 127 = div64 127 := rfl
    simp only [h, e1, e2, den_tr_lt, den_tr_le, den_tr_eq, den_tr_ne]
    clear e1 e2
    simp_all [bi, no, Sx.Door.u64, Sx.Door.i64, un, v, k64, and64, div64, E.den, Bi.den, Un.den, b2i, i64_bits, u64_bits, or_zero, fn14_zero, fn3_64]
    all_goals (try (first | omega | exact congrArg _ (fn3_mod (by omega))))
  · intros
    have h : u 0 = 127 := by omega
    have e1 : selF valL64 (.lit 0) 127 = .ite (bi .eq (v 2) (.lit 0)) (.lit 0) (.ite and64 (.lit 0) (i64 (bi .tdiv (v 1) (v 2)))) := rfl
    have e2 : selF errL64 (.lit 300) 127 = div64 127 := rfl
    simp only [h, e1, e2, den_tr_lt, den_tr_le, den_tr_eq, den_tr_ne]
    clear e1 e2
    simp_all [bi, no, Sx.Door.u64, Sx.Door.i64, un, v, k64, and64, div64, E.den, Bi.den, Un.den, b2i, i64_bits, u64_bits, or_zero, fn14_zero, fn3_64]
    all_goals (try (first | omega | exact congrArg _ (fn3_mod (by omega))))
  · intros
    have h : u 0 = 128 := by omega
    have e1 : selF valL64 (.lit 0) 128 = .ite (bi .eq (v 2) (.lit 0)) (.lit 0) (i64 (bi .ediv (u64 (v 1)) (u64 (v 2)))) := rfl
    have e2 : selF errL64 (.lit 300) 128 = div64 128 := rfl
    simp only [h, e1, e2, den_tr_lt, den_tr_le, den_tr_eq, den_tr_ne]
    clear e1 e2
    simp_all [bi, no, Sx.Door.u64, Sx.Door.i64, un, v, k64, and64, div64, E.den, Bi.den, Un.den, b2i, i64_bits, u64_bits, or_zero, fn14_zero, fn3_64]
    all_goals (try (first | omega | exact congrArg _ (fn3_mod (by omega))))
  · intros
    have h : u 0 = 129 := by omega
    have e1 : selF valL64 (.lit 0) 129 = .ite (bi .eq (v 2) (.lit 0)) (.lit 0) (bi .tmod (v 1) (v 2)) := rfl
    have e2 : selF errL64 (.lit 300) 129 = div64 129 := rfl
    simp only [h, e1, e2, den_tr_lt, den_tr_le, den_tr_eq, den_tr_ne]
    clear e1 e2
    simp_all [bi, no, Sx.Door.u64, Sx.Door.i64, un, v, k64, and64, div64, E.den, Bi.den, Un.den, b2i, i64_bits, u64_bits, or_zero, fn14_zero, fn3_64]
    all_goals (try (first | omega | exact congrArg _ (fn3_mod (by omega))))
  · intros
    have h : u 0 = 129 := by omega
    have e1 : selF valL64 (.lit 0) 129 = .ite (bi .eq (v 2) (.lit 0)) (.lit 0) (bi .tmod (v 1) (v 2)) := rfl
    have e2 : selF errL64 (.lit 300) 129 = div64 129 := rfl
    simp only [h, e1, e2, den_tr_lt, den_tr_le, den_tr_eq, den_tr_ne]
    clear e1 e2
    simp_all [bi, no, Sx.Door.u64, Sx.Door.i64, un, v, k64, and64, div64, E.den, Bi.den, Un.den, b2i, i64_bits, u64_bits, or_zero, fn14_zero, fn3_64]
    all_goals (try (first | omega | exact congrArg _ (fn3_mod (by omega))))
  · intros
    have h : u 0 = 130 := by omega
    have e1 : selF valL64 (.lit 0) 130 = .ite (bi .eq (v 2) (.lit 0)) (.lit 0) (i64 (bi .emod (u64 (v 1)) (u64 (v 2)))) := rfl
    have e2 : selF errL64 (.lit 300) 130 = div64 130 := rfl
    simp only [h, e1, e2, den_tr_lt, den_tr_le, den_tr_eq, den_tr_ne]
    clear e1 e2
    simp_all [bi, no, Sx.Door.u64, Sx.Door.i64, un, v, k64, and64, div64, E.den, Bi.den, Un.den, b2i, i64_bits, u64_bits, or_zero, fn14_zero, fn3_64]
    all_goals (try (first | omega | exact congrArg _ (fn3_mod (by omega))))
  · intros
    have h : u 0 = 127 := by omega
    have e1 : selF valL64 (.lit 0) 127 = .ite (bi .eq (v 2) (.lit 0)) (.lit 0) (.ite and64 (.lit 0) (i64 (bi .tdiv (v 1) (v 2)))) := rfl
    have e2 : selF errL64 (.lit 300) 127 = div64 127 := rfl
    simp only [h, e1, e2, den_tr_lt, den_tr_le, den_tr_eq, den_tr_ne]
    clear e1 e2
    simp_all [bi, no, Sx.Door.u64, Sx.Door.i64, un, v, k64, and64, div64, E.den, Bi.den, Un.den, b2i, i64_bits, u64_bits, or_zero, fn14_zero, fn3_64]
    all_goals (try (first | omega | exact congrArg _ (fn3_mod (by omega))))
  · intros
    have h : u 0 = 128 := by omega
    have e1 : selF valL64 (.lit 0) 128 = .ite (bi .eq (v 2) (.lit 0)) (.lit 0) (i64 (bi .ediv (u64 (v 1)) (u64 (v 2)))) := rfl
    have e2 : selF errL64 (.lit 300) 128 = div64 128 := rfl
    simp only [h, e1, e2, den_tr_lt, den_tr_le, den_tr_eq, den_tr_ne]
    clear e1 e2
    simp_all [bi, no, Sx.Door.u64, Sx.Door.i64, un, v, k64, and64, div64, E.den, Bi.den, Un.den, b2i, i64_bits, u64_bits, or_zero, fn14_zero, fn3_64]
    all_goals (try (first | omega | exact congrArg _ (fn3_mod (by omega))))
  · intros
    have h : u 0 = 129 := by omega
    have e1 : selF valL64 (.lit 0) 129 = .ite (bi .eq (v 2) (.lit 0)) (.lit 0) (bi .tmod (v 1) (v 2)) := rfl
    have e2 : selF errL64 (.lit 300) 129 = div64 129 := rfl
    simp only [h, e1, e2, den_tr_lt, den_tr_le, den_tr_eq, den_tr_ne]
    clear e1 e2
    simp_all [bi, no, Sx.Door.u64, Sx.Door.i64, un, v, k64, and64, div64, E.den, Bi.den, Un.den, b2i, i64_bits, u64_bits, or_zero, fn14_zero, fn3_64]
    all_goals (try (first | omega | exact congrArg _ (fn3_mod (by omega))))
  · intros
    have h : u 0 = 130 := by omega
    have e1 : selF valL64 (.lit 0) 130 = .ite (bi .eq (v 2) (.lit 0)) (.lit 0) (i64 (bi .emod (u64 (v 1)) (u64 (v 2)))) := rfl
    have e2 : selF errL64 (.lit 300) 130 = div64 130 := rfl
    simp only [h, e1, e2, den_tr_lt, den_tr_le, den_tr_eq, den_tr_ne]
    clear e1 e2
    simp_all [bi, no, Sx.Door.u64, Sx.Door.i64, un, v, k64, and64, div64, E.den, Bi.den, Un.den, b2i, i64_bits, u64_bits, or_zero, fn14_zero, fn3_64]
    all_goals (try (first | omega | exact congrArg _ (fn3_mod (by omega))))
  · intros
    have h : u 0 = 131 := by omega
    have e1 : selF valL64 (.lit 0) 131 = bi (.bits .and .i64) (v 1) (v 2) := rfl
    have e2 : selF errL64 (.lit 300) 131 = .lit 0 := rfl
    simp only [h, e1, e2, den_tr_lt, den_tr_le, den_tr_eq, den_tr_ne]
    clear e1 e2
    simp_all [bi, no, Sx.Door.u64, Sx.Door.i64, un, v, k64, and64, div64, E.den, Bi.den, Un.den, b2i, i64_bits, u64_bits, or_zero, fn14_zero, fn3_64]
    all_goals (try (first | omega | exact congrArg _ (fn3_mod (by omega))))
  · intros
    have h : u 0 = 132 := by omega
    have e1 : selF valL64 (.lit 0) 132 = bi (.bits .or .i64) (v 1) (v 2) := rfl
    have e2 : selF errL64 (.lit 300) 132 = .lit 0 := rfl
    simp only [h, e1, e2, den_tr_lt, den_tr_le, den_tr_eq, den_tr_ne]
    clear e1 e2
    simp_all [bi, no, Sx.Door.u64, Sx.Door.i64, un, v, k64, and64, div64, E.den, Bi.den, Un.den, b2i, i64_bits, u64_bits, or_zero, fn14_zero, fn3_64]
    all_goals (try (first | omega | exact congrArg _ (fn3_mod (by omega))))
  · intros
    have h : u 0 = 133 := by omega
    have e1 : selF valL64 (.lit 0) 133 = bi (.bits .xor .i64) (v 1) (v 2) := rfl
    have e2 : selF errL64 (.lit 300) 133 = .lit 0 := rfl
    simp only [h, e1, e2, den_tr_lt, den_tr_le, den_tr_eq, den_tr_ne]
    clear e1 e2
    simp_all [bi, no, Sx.Door.u64, Sx.Door.i64, un, v, k64, and64, div64, E.den, Bi.den, Un.den, b2i, i64_bits, u64_bits, or_zero, fn14_zero, fn3_64]
    all_goals (try (first | omega | exact congrArg _ (fn3_mod (by omega))))
  · intros
    have h : u 0 = 134 := by omega
    have e1 : selF valL64 (.lit 0) 134 = bi (.shl .i64) (v 1) k64 := rfl
    have e2 : selF errL64 (.lit 300) 134 = .lit 0 := rfl
    simp only [h, e1, e2, den_tr_lt, den_tr_le, den_tr_eq, den_tr_ne]
    clear e1 e2
    simp_all [bi, no, Sx.Door.u64, Sx.Door.i64, un, v, k64, and64, div64, E.den, Bi.den, Un.den, b2i, i64_bits, u64_bits, or_zero, fn14_zero, fn3_64]
    all_goals (try (first | omega | exact congrArg _ (fn3_mod (by omega))))
  · intros
    have h : u 0 = 135 := by omega
    have e1 : selF valL64 (.lit 0) 135 = bi (.shr .i64) (v 1) k64 := rfl
    have e2 : selF errL64 (.lit 300) 135 = .lit 0 := rfl
    simp only [h, e1, e2, den_tr_lt, den_tr_le, den_tr_eq, den_tr_ne]
    clear e1 e2
    simp_all [bi, no, Sx.Door.u64, Sx.Door.i64, un, v, k64, and64, div64, E.den, Bi.den, Un.den, b2i, i64_bits, u64_bits, or_zero, fn14_zero, fn3_64]
    all_goals (try (first | omega | exact congrArg _ (fn3_mod (by omega))))
  · intros
    have h : u 0 = 136 := by omega
    have e1 : selF valL64 (.lit 0) 136 = i64 (bi (.shr .u64) (u64 (v 1)) k64) := rfl
    have e2 : selF errL64 (.lit 300) 136 = .lit 0 := rfl
    simp only [h, e1, e2, den_tr_lt, den_tr_le, den_tr_eq, den_tr_ne]
    clear e1 e2
    simp_all [bi, no, Sx.Door.u64, Sx.Door.i64, un, v, k64, and64, div64, E.den, Bi.den, Un.den, b2i, i64_bits, u64_bits, or_zero, fn14_zero, fn3_64]
    all_goals (try (first | omega | exact congrArg _ (fn3_mod (by omega))))
  · intros
    have h : u 0 = 138 := by omega
    have e1 : selF valL64 (.lit 0) 138 = i64 (.fn 3 (v 1) (.lit 64) (bi .sub (.lit 0) (v 2))) := rfl
    have e2 : selF errL64 (.lit 300) 138 = .lit 0 := rfl
    simp only [h, e1, e2, den_tr_lt, den_tr_le, den_tr_eq, den_tr_ne]
    clear e1 e2
    simp_all [bi, no, Sx.Door.u64, Sx.Door.i64, un, v, k64, and64, div64, E.den, Bi.den, Un.den, b2i, i64_bits, u64_bits, or_zero, fn14_zero, fn3_64]
    all_goals (try (first | omega | exact congrArg _ (fn3_mod (by omega))))
  · intros
    have h : u 0 = 137 := by omega
    have e1 : selF valL64 (.lit 0) 137 = i64 (.fn 3 (v 1) (.lit 64) (v 2)) := rfl
    have e2 : selF errL64 (.lit 300) 137 = .lit 0 := rfl
    simp only [h, e1, e2, den_tr_lt, den_tr_le, den_tr_eq, den_tr_ne]
    clear e1 e2
    simp_all [bi, no, Sx.Door.u64, Sx.Door.i64, un, v, k64, and64, div64, E.den, Bi.den, Un.den, b2i, i64_bits, u64_bits, or_zero, fn14_zero, fn3_64]
    all_goals (try (first | omega | exact congrArg _ (fn3_mod (by omega))))
  · intros
    rw [selF_none _ _ _ (by intro p hp; simp [keys] at hp; omega), selF_none _ _ _ (by intro p hp; simp [keys'] at hp; omega)]
    exact ⟨rfl, rfl⟩
  · intros
    have h : u 0 = 124 := by omega
    have e1 : selF valL64 (.lit 0) 124 = i64 (bi .add (v 1) (v 2)) := rfl
    have e2 : selF errL64 (.lit 300) 124 = .lit 0 := rfl
    simp only [h, e1, e2, den_tr_lt, den_tr_le, den_tr_eq, den_tr_ne]
    clear e1 e2
    simp_all [bi, no, Sx.Door.u64, Sx.Door.i64, un, v, k64, and64, div64, E.den, Bi.den, Un.den, b2i, i64_bits, u64_bits, or_zero, fn14_zero, fn3_64]
    all_goals (try (first | omega | exact congrArg _ (fn3_mod (by omega))))
  · intros
    have h : u 0 = 125 := by omega
    have e1 : selF valL64 (.lit 0) 125 = i64 (bi .sub (v 1) (v 2)) := rfl
    have e2 : selF errL64 (.lit 300) 125 = .lit 0 := rfl
    simp only [h, e1, e2, den_tr_lt, den_tr_le, den_tr_eq, den_tr_ne]
    clear e1 e2
    simp_all [bi, no, Sx.Door.u64, Sx.Door.i64, un, v, k64, and64, div64, E.den, Bi.den, Un.den, b2i, i64_bits, u64_bits, or_zero, fn14_zero, fn3_64]
    all_goals (try (first | omega | exact congrArg _ (fn3_mod (by omega))))
  · intros
    have h : u 0 = 126 := by omega
    have e1 : selF valL64 (.lit 0) 126 = i64 (bi .mul (v 1) (v 2)) := rfl
    have e2 : selF errL64 (.lit 300) 126 = .lit 0 := rfl
    simp only [h, e1, e2, den_tr_lt, den_tr_le, den_tr_eq, den_tr_ne]
    clear e1 e2
    simp_all [bi, no, Sx.Door.u64, Sx.Door.i64, un, v, k64, and64, div64, E.den, Bi.den, Un.den, b2i, i64_bits, u64_bits, or_zero, fn14_zero, fn3_64]
    all_goals (try (first | omega | exact congrArg _ (fn3_mod (by omega))))
  · intros
    rw [selF_none _ _ _ (by intro p hp; simp [keys] at hp; omega), selF_none _ _ _ (by intro p hp; simp [keys'] at hp; omega)]
    exact ⟨rfl, rfl⟩
  · intros
    rw [selF_none _ _ _ (by intro p hp; simp [keys] at hp; omega), selF_none _ _ _ (by intro p hp; simp [keys'] at hp; omega)]
    exact ⟨rfl, rfl⟩

end Go.Proofs.YtdmdjhmaanhocaaDoor.PlainOp64
