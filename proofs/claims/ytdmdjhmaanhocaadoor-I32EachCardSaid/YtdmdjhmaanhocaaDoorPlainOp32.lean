/- The operations' contracts of 32 bits, in numbers alone. No condition. -/
import Derived.Test.YtdmdjhmaanhocaaDoorRunOp32
import Derived.Test.YtdmdjhmaanhocaaDoorPlOp32
namespace Go.Proofs.YtdmdjhmaanhocaaDoor.PlainOp32
open Go Go.Sx Go.Sx.Door Go.Proofs.YtdmdjhmaanhocaaDoor.RunOp32

theorem unOne1 (a : Option IntKind × E) (k : IntKind) (e : E) : unOne [a].length (.int k e) = [.int k e] := rfl
theorem unOne2 (a b : Option IntKind × E) (vs : List V) : unOne [a, b].length (.tup vs) = vs := rfl
theorem den_tr_lt (ρ : Env) (a b : E) : (tr (bi .lt a b)).den ρ = if a.den ρ < b.den ρ then 1 else 0 := by
  simp only [tr, bi, E.den, Bi.den, b2i_ne, decide_eq_true_eq]
theorem den_tr_le (ρ : Env) (a b : E) : (tr (bi .le a b)).den ρ = if a.den ρ ≤ b.den ρ then 1 else 0 := by
  simp only [tr, bi, E.den, Bi.den, b2i_ne, decide_eq_true_eq]
theorem den_tr_eq (ρ : Env) (a b : E) : (tr (bi .eq a b)).den ρ = if a.den ρ = b.den ρ then 1 else 0 := by
  simp only [tr, bi, E.den, Bi.den, b2i_ne, beq_iff_eq]
theorem den_tr_ne (ρ : Env) (a b : E) : (tr (no (bi .eq a b))).den ρ = if a.den ρ = b.den ρ then 0 else 1 := by
  simp only [tr, bi, no, E.den, Un.den, Bi.den, b2i_ne]
  by_cases h : a.den ρ = b.den ρ <;> simp [h, b2i]
set_option linter.unusedSimpArgs false
theorem den_min (ρ : Env) (a b : E) : (E.ite (.bin .lt a b) a b).den ρ = min (a.den ρ) (b.den ρ) := by
  simp only [E.den, Bi.den, b2i_ne, decide_eq_true_eq]
  split <;> omega
theorem ctz_min32 (x : Int) : min (fnT 1 (IntKind.u64.wrap x) 64 0) 32 = fnT 11 x 32 0 := by
  rw [← ctz32_same x]; simp only [b2i_ne, decide_eq_true_eq]; split <;> omega
theorem sg_plain (u : Nat → Int) : Keeps ⟨u, fnT⟩ sign32.res sgR := by
  simp only [sign32, sgR, Keeps, chain, unOne1, SameL, E.prop, E.den, Bi.den, Un.den, v, Sx.Door.i32, un, true_and, and_true]
  rw [i32_wrap, u32_wrap]
  refine ⟨?_, ?_⟩ <;> intros <;> omega
theorem ua_plain (u : Nat → Int) : Keeps ⟨u, fnT⟩ (unSp32 46).res uaR := by
  simp only [unSp32, uaR, Keeps, chain, unOne2, SameL, E.prop, ↓den_min, E.den, Bi.den, Un.den, true_and, and_true, unV32_den, unE32_den, clz32_same, ctz_min32, pop32_same]
  refine ⟨?_, ?_, ?_, ?_, ?_, ?_⟩
  all_goals (intros; simp_all [selF, E.den, Un.den, v, den_tr_eq, a32, Sx.Door.u32, un])
theorem ub_plain (u : Nat → Int) : Keeps ⟨u, fnT⟩ (unSp32 47).res ubR := by
  simp only [unSp32, ubR, Keeps, chain, unOne2, SameL, E.prop, E.den, Bi.den, Un.den, true_and, and_true, unV32_den, unE32_den, fn10_u32, fn11_u32, fn12_u32]
  refine ⟨?_, ?_, ?_, ?_, ?_, ?_⟩
  all_goals (intros; simp_all [selF, E.den, Un.den, v, den_tr_eq, a32, Sx.Door.u32, un])

theorem bb_plain (u : Nat → Int) : Keeps ⟨u, fnT⟩ ((binSp32 49)).res bbR := by
  simp only [binSp32, bbR, Keeps, chain, unOne2, SameL, E.prop, E.den, Bi.den, Un.den, true_and, and_true, binV32_den, binE32_den, i64_bits, u64_bits]
  refine ⟨?_, ?_, ?_, ?_, ?_, ?_, ?_, ?_, ?_, ?_, ?_, ?_, ?_, ?_, ?_, ?_, ?_, ?_, ?_, ?_, ?_, ?_, ?_, ?_, ?_, ?_, ?_, ?_, ?_, ?_, ?_, ?_, ?_, ?_, ?_, ?_, ?_, ?_, ?_, ?_, ?_, ?_, ?_, ?_, ?_⟩
  · intros
    have h : u 0 = 70 := by omega
    have e1 : selF valL32 (.lit 0) 70 = tr (bi .eq a32 b32) := rfl
    have e2 : selF errL32 (.lit 200) 70 = .lit 0 := rfl
    simp only [h, e1, e2, den_tr_lt, den_tr_le, den_tr_eq, den_tr_ne]
    clear e1 e2
    simp_all [bi, no, Sx.Door.u64, Sx.Door.i64, Sx.Door.u32, Sx.Door.i32, un, v, k32, a32, b32, p32, q32, and32, div32, E.den, Bi.den, Un.den, b2i, i64_bits, u64_bits, rot32_or, low32_and, low32_or, low32_xor, u32_add, u32_sub, u32_mul, u32_i64, u32_mul1, u32_low, u32_div, u32_shr]
    all_goals (try (first | omega | exact fn3_mod (by omega) | exact low32_and _ _ | exact low32_or _ _ | exact low32_xor _ _ | (rw [Int.mul_comm, u32_mul1, Int.mul_comm]; done) | rfl | (have := eq32 (u 1) (u 2); omega)))
  · intros
    have h : u 0 = 70 := by omega
    have e1 : selF valL32 (.lit 0) 70 = tr (bi .eq a32 b32) := rfl
    have e2 : selF errL32 (.lit 200) 70 = .lit 0 := rfl
    simp only [h, e1, e2, den_tr_lt, den_tr_le, den_tr_eq, den_tr_ne]
    clear e1 e2
    simp_all [bi, no, Sx.Door.u64, Sx.Door.i64, Sx.Door.u32, Sx.Door.i32, un, v, k32, a32, b32, p32, q32, and32, div32, E.den, Bi.den, Un.den, b2i, i64_bits, u64_bits, rot32_or, low32_and, low32_or, low32_xor, u32_add, u32_sub, u32_mul, u32_i64, u32_mul1, u32_low, u32_div, u32_shr]
    all_goals (try (first | omega | exact fn3_mod (by omega) | exact low32_and _ _ | exact low32_or _ _ | exact low32_xor _ _ | (rw [Int.mul_comm, u32_mul1, Int.mul_comm]; done) | rfl | (have := eq32 (u 1) (u 2); omega)))
  · intros
    have h : u 0 = 71 := by omega
    have e1 : selF valL32 (.lit 0) 71 = tr (no (bi .eq a32 b32)) := rfl
    have e2 : selF errL32 (.lit 200) 71 = .lit 0 := rfl
    simp only [h, e1, e2, den_tr_lt, den_tr_le, den_tr_eq, den_tr_ne]
    clear e1 e2
    simp_all [bi, no, Sx.Door.u64, Sx.Door.i64, Sx.Door.u32, Sx.Door.i32, un, v, k32, a32, b32, p32, q32, and32, div32, E.den, Bi.den, Un.den, b2i, i64_bits, u64_bits, rot32_or, low32_and, low32_or, low32_xor, u32_add, u32_sub, u32_mul, u32_i64, u32_mul1, u32_low, u32_div, u32_shr]
    all_goals (try (first | omega | exact fn3_mod (by omega) | exact low32_and _ _ | exact low32_or _ _ | exact low32_xor _ _ | (rw [Int.mul_comm, u32_mul1, Int.mul_comm]; done) | rfl | (have := eq32 (u 1) (u 2); omega)))
  · intros
    have h : u 0 = 71 := by omega
    have e1 : selF valL32 (.lit 0) 71 = tr (no (bi .eq a32 b32)) := rfl
    have e2 : selF errL32 (.lit 200) 71 = .lit 0 := rfl
    simp only [h, e1, e2, den_tr_lt, den_tr_le, den_tr_eq, den_tr_ne]
    clear e1 e2
    simp_all [bi, no, Sx.Door.u64, Sx.Door.i64, Sx.Door.u32, Sx.Door.i32, un, v, k32, a32, b32, p32, q32, and32, div32, E.den, Bi.den, Un.den, b2i, i64_bits, u64_bits, rot32_or, low32_and, low32_or, low32_xor, u32_add, u32_sub, u32_mul, u32_i64, u32_mul1, u32_low, u32_div, u32_shr]
    all_goals (try (first | omega | exact fn3_mod (by omega) | exact low32_and _ _ | exact low32_or _ _ | exact low32_xor _ _ | (rw [Int.mul_comm, u32_mul1, Int.mul_comm]; done) | rfl | (have := eq32 (u 1) (u 2); omega)))
  · intros
    have h : u 0 = 72 := by omega
    have e1 : selF valL32 (.lit 0) 72 = tr (bi .lt p32 q32) := rfl
    have e2 : selF errL32 (.lit 200) 72 = .lit 0 := rfl
    simp only [h, e1, e2, den_tr_lt, den_tr_le, den_tr_eq, den_tr_ne]
    clear e1 e2
    simp_all [bi, no, Sx.Door.u64, Sx.Door.i64, Sx.Door.u32, Sx.Door.i32, un, v, k32, a32, b32, p32, q32, and32, div32, E.den, Bi.den, Un.den, b2i, i64_bits, u64_bits, rot32_or, low32_and, low32_or, low32_xor, u32_add, u32_sub, u32_mul, u32_i64, u32_mul1, u32_low, u32_div, u32_shr]
    all_goals (try (first | omega | exact fn3_mod (by omega) | exact low32_and _ _ | exact low32_or _ _ | exact low32_xor _ _ | (rw [Int.mul_comm, u32_mul1, Int.mul_comm]; done) | rfl | (have := eq32 (u 1) (u 2); omega)))
  · intros
    have h : u 0 = 72 := by omega
    have e1 : selF valL32 (.lit 0) 72 = tr (bi .lt p32 q32) := rfl
    have e2 : selF errL32 (.lit 200) 72 = .lit 0 := rfl
    simp only [h, e1, e2, den_tr_lt, den_tr_le, den_tr_eq, den_tr_ne]
    clear e1 e2
    simp_all [bi, no, Sx.Door.u64, Sx.Door.i64, Sx.Door.u32, Sx.Door.i32, un, v, k32, a32, b32, p32, q32, and32, div32, E.den, Bi.den, Un.den, b2i, i64_bits, u64_bits, rot32_or, low32_and, low32_or, low32_xor, u32_add, u32_sub, u32_mul, u32_i64, u32_mul1, u32_low, u32_div, u32_shr]
    all_goals (try (first | omega | exact fn3_mod (by omega) | exact low32_and _ _ | exact low32_or _ _ | exact low32_xor _ _ | (rw [Int.mul_comm, u32_mul1, Int.mul_comm]; done) | rfl | (have := eq32 (u 1) (u 2); omega)))
  · intros
    have h : u 0 = 73 := by omega
    have e1 : selF valL32 (.lit 0) 73 = tr (bi .lt a32 b32) := rfl
    have e2 : selF errL32 (.lit 200) 73 = .lit 0 := rfl
    simp only [h, e1, e2, den_tr_lt, den_tr_le, den_tr_eq, den_tr_ne]
    clear e1 e2
    simp_all [bi, no, Sx.Door.u64, Sx.Door.i64, Sx.Door.u32, Sx.Door.i32, un, v, k32, a32, b32, p32, q32, and32, div32, E.den, Bi.den, Un.den, b2i, i64_bits, u64_bits, rot32_or, low32_and, low32_or, low32_xor, u32_add, u32_sub, u32_mul, u32_i64, u32_mul1, u32_low, u32_div, u32_shr]
    all_goals (try (first | omega | exact fn3_mod (by omega) | exact low32_and _ _ | exact low32_or _ _ | exact low32_xor _ _ | (rw [Int.mul_comm, u32_mul1, Int.mul_comm]; done) | rfl | (have := eq32 (u 1) (u 2); omega)))
  · intros
    have h : u 0 = 73 := by omega
    have e1 : selF valL32 (.lit 0) 73 = tr (bi .lt a32 b32) := rfl
    have e2 : selF errL32 (.lit 200) 73 = .lit 0 := rfl
    simp only [h, e1, e2, den_tr_lt, den_tr_le, den_tr_eq, den_tr_ne]
    clear e1 e2
    simp_all [bi, no, Sx.Door.u64, Sx.Door.i64, Sx.Door.u32, Sx.Door.i32, un, v, k32, a32, b32, p32, q32, and32, div32, E.den, Bi.den, Un.den, b2i, i64_bits, u64_bits, rot32_or, low32_and, low32_or, low32_xor, u32_add, u32_sub, u32_mul, u32_i64, u32_mul1, u32_low, u32_div, u32_shr]
    all_goals (try (first | omega | exact fn3_mod (by omega) | exact low32_and _ _ | exact low32_or _ _ | exact low32_xor _ _ | (rw [Int.mul_comm, u32_mul1, Int.mul_comm]; done) | rfl | (have := eq32 (u 1) (u 2); omega)))
  · intros
    have h : u 0 = 74 := by omega
    have e1 : selF valL32 (.lit 0) 74 = tr (bi .lt q32 p32) := rfl
    have e2 : selF errL32 (.lit 200) 74 = .lit 0 := rfl
    simp only [h, e1, e2, den_tr_lt, den_tr_le, den_tr_eq, den_tr_ne]
    clear e1 e2
    simp_all [bi, no, Sx.Door.u64, Sx.Door.i64, Sx.Door.u32, Sx.Door.i32, un, v, k32, a32, b32, p32, q32, and32, div32, E.den, Bi.den, Un.den, b2i, i64_bits, u64_bits, rot32_or, low32_and, low32_or, low32_xor, u32_add, u32_sub, u32_mul, u32_i64, u32_mul1, u32_low, u32_div, u32_shr]
    all_goals (try (first | omega | exact fn3_mod (by omega) | exact low32_and _ _ | exact low32_or _ _ | exact low32_xor _ _ | (rw [Int.mul_comm, u32_mul1, Int.mul_comm]; done) | rfl | (have := eq32 (u 1) (u 2); omega)))
  · intros
    have h : u 0 = 74 := by omega
    have e1 : selF valL32 (.lit 0) 74 = tr (bi .lt q32 p32) := rfl
    have e2 : selF errL32 (.lit 200) 74 = .lit 0 := rfl
    simp only [h, e1, e2, den_tr_lt, den_tr_le, den_tr_eq, den_tr_ne]
    clear e1 e2
    simp_all [bi, no, Sx.Door.u64, Sx.Door.i64, Sx.Door.u32, Sx.Door.i32, un, v, k32, a32, b32, p32, q32, and32, div32, E.den, Bi.den, Un.den, b2i, i64_bits, u64_bits, rot32_or, low32_and, low32_or, low32_xor, u32_add, u32_sub, u32_mul, u32_i64, u32_mul1, u32_low, u32_div, u32_shr]
    all_goals (try (first | omega | exact fn3_mod (by omega) | exact low32_and _ _ | exact low32_or _ _ | exact low32_xor _ _ | (rw [Int.mul_comm, u32_mul1, Int.mul_comm]; done) | rfl | (have := eq32 (u 1) (u 2); omega)))
  · intros
    have h : u 0 = 74 := by omega
    have e1 : selF valL32 (.lit 0) 74 = tr (bi .lt q32 p32) := rfl
    have e2 : selF errL32 (.lit 200) 74 = .lit 0 := rfl
    simp only [h, e1, e2, den_tr_lt, den_tr_le, den_tr_eq, den_tr_ne]
    clear e1 e2
    simp_all [bi, no, Sx.Door.u64, Sx.Door.i64, Sx.Door.u32, Sx.Door.i32, un, v, k32, a32, b32, p32, q32, and32, div32, E.den, Bi.den, Un.den, b2i, i64_bits, u64_bits, rot32_or, low32_and, low32_or, low32_xor, u32_add, u32_sub, u32_mul, u32_i64, u32_mul1, u32_low, u32_div, u32_shr]
    all_goals (try (first | omega | exact fn3_mod (by omega) | exact low32_and _ _ | exact low32_or _ _ | exact low32_xor _ _ | (rw [Int.mul_comm, u32_mul1, Int.mul_comm]; done) | rfl | (have := eq32 (u 1) (u 2); omega)))
  · intros
    have h : u 0 = 75 := by omega
    have e1 : selF valL32 (.lit 0) 75 = tr (bi .lt b32 a32) := rfl
    have e2 : selF errL32 (.lit 200) 75 = .lit 0 := rfl
    simp only [h, e1, e2, den_tr_lt, den_tr_le, den_tr_eq, den_tr_ne]
    clear e1 e2
    simp_all [bi, no, Sx.Door.u64, Sx.Door.i64, Sx.Door.u32, Sx.Door.i32, un, v, k32, a32, b32, p32, q32, and32, div32, E.den, Bi.den, Un.den, b2i, i64_bits, u64_bits, rot32_or, low32_and, low32_or, low32_xor, u32_add, u32_sub, u32_mul, u32_i64, u32_mul1, u32_low, u32_div, u32_shr]
    all_goals (try (first | omega | exact fn3_mod (by omega) | exact low32_and _ _ | exact low32_or _ _ | exact low32_xor _ _ | (rw [Int.mul_comm, u32_mul1, Int.mul_comm]; done) | rfl | (have := eq32 (u 1) (u 2); omega)))
  · intros
    have h : u 0 = 75 := by omega
    have e1 : selF valL32 (.lit 0) 75 = tr (bi .lt b32 a32) := rfl
    have e2 : selF errL32 (.lit 200) 75 = .lit 0 := rfl
    simp only [h, e1, e2, den_tr_lt, den_tr_le, den_tr_eq, den_tr_ne]
    clear e1 e2
    simp_all [bi, no, Sx.Door.u64, Sx.Door.i64, Sx.Door.u32, Sx.Door.i32, un, v, k32, a32, b32, p32, q32, and32, div32, E.den, Bi.den, Un.den, b2i, i64_bits, u64_bits, rot32_or, low32_and, low32_or, low32_xor, u32_add, u32_sub, u32_mul, u32_i64, u32_mul1, u32_low, u32_div, u32_shr]
    all_goals (try (first | omega | exact fn3_mod (by omega) | exact low32_and _ _ | exact low32_or _ _ | exact low32_xor _ _ | (rw [Int.mul_comm, u32_mul1, Int.mul_comm]; done) | rfl | (have := eq32 (u 1) (u 2); omega)))
  · intros
    have h : u 0 = 75 := by omega
    have e1 : selF valL32 (.lit 0) 75 = tr (bi .lt b32 a32) := rfl
    have e2 : selF errL32 (.lit 200) 75 = .lit 0 := rfl
    simp only [h, e1, e2, den_tr_lt, den_tr_le, den_tr_eq, den_tr_ne]
    clear e1 e2
    simp_all [bi, no, Sx.Door.u64, Sx.Door.i64, Sx.Door.u32, Sx.Door.i32, un, v, k32, a32, b32, p32, q32, and32, div32, E.den, Bi.den, Un.den, b2i, i64_bits, u64_bits, rot32_or, low32_and, low32_or, low32_xor, u32_add, u32_sub, u32_mul, u32_i64, u32_mul1, u32_low, u32_div, u32_shr]
    all_goals (try (first | omega | exact fn3_mod (by omega) | exact low32_and _ _ | exact low32_or _ _ | exact low32_xor _ _ | (rw [Int.mul_comm, u32_mul1, Int.mul_comm]; done) | rfl | (have := eq32 (u 1) (u 2); omega)))
  · intros
    have h : u 0 = 76 := by omega
    have e1 : selF valL32 (.lit 0) 76 = tr (bi .le p32 q32) := rfl
    have e2 : selF errL32 (.lit 200) 76 = .lit 0 := rfl
    simp only [h, e1, e2, den_tr_lt, den_tr_le, den_tr_eq, den_tr_ne]
    clear e1 e2
    simp_all [bi, no, Sx.Door.u64, Sx.Door.i64, Sx.Door.u32, Sx.Door.i32, un, v, k32, a32, b32, p32, q32, and32, div32, E.den, Bi.den, Un.den, b2i, i64_bits, u64_bits, rot32_or, low32_and, low32_or, low32_xor, u32_add, u32_sub, u32_mul, u32_i64, u32_mul1, u32_low, u32_div, u32_shr]
    all_goals (try (first | omega | exact fn3_mod (by omega) | exact low32_and _ _ | exact low32_or _ _ | exact low32_xor _ _ | (rw [Int.mul_comm, u32_mul1, Int.mul_comm]; done) | rfl | (have := eq32 (u 1) (u 2); omega)))
  · intros
    have h : u 0 = 76 := by omega
    have e1 : selF valL32 (.lit 0) 76 = tr (bi .le p32 q32) := rfl
    have e2 : selF errL32 (.lit 200) 76 = .lit 0 := rfl
    simp only [h, e1, e2, den_tr_lt, den_tr_le, den_tr_eq, den_tr_ne]
    clear e1 e2
    simp_all [bi, no, Sx.Door.u64, Sx.Door.i64, Sx.Door.u32, Sx.Door.i32, un, v, k32, a32, b32, p32, q32, and32, div32, E.den, Bi.den, Un.den, b2i, i64_bits, u64_bits, rot32_or, low32_and, low32_or, low32_xor, u32_add, u32_sub, u32_mul, u32_i64, u32_mul1, u32_low, u32_div, u32_shr]
    all_goals (try (first | omega | exact fn3_mod (by omega) | exact low32_and _ _ | exact low32_or _ _ | exact low32_xor _ _ | (rw [Int.mul_comm, u32_mul1, Int.mul_comm]; done) | rfl | (have := eq32 (u 1) (u 2); omega)))
  · intros
    have h : u 0 = 76 := by omega
    have e1 : selF valL32 (.lit 0) 76 = tr (bi .le p32 q32) := rfl
    have e2 : selF errL32 (.lit 200) 76 = .lit 0 := rfl
    simp only [h, e1, e2, den_tr_lt, den_tr_le, den_tr_eq, den_tr_ne]
    clear e1 e2
    simp_all [bi, no, Sx.Door.u64, Sx.Door.i64, Sx.Door.u32, Sx.Door.i32, un, v, k32, a32, b32, p32, q32, and32, div32, E.den, Bi.den, Un.den, b2i, i64_bits, u64_bits, rot32_or, low32_and, low32_or, low32_xor, u32_add, u32_sub, u32_mul, u32_i64, u32_mul1, u32_low, u32_div, u32_shr]
    all_goals (try (first | omega | exact fn3_mod (by omega) | exact low32_and _ _ | exact low32_or _ _ | exact low32_xor _ _ | (rw [Int.mul_comm, u32_mul1, Int.mul_comm]; done) | rfl | (have := eq32 (u 1) (u 2); omega)))
  · intros
    have h : u 0 = 77 := by omega
    have e1 : selF valL32 (.lit 0) 77 = tr (bi .le a32 b32) := rfl
    have e2 : selF errL32 (.lit 200) 77 = .lit 0 := rfl
    simp only [h, e1, e2, den_tr_lt, den_tr_le, den_tr_eq, den_tr_ne]
    clear e1 e2
    simp_all [bi, no, Sx.Door.u64, Sx.Door.i64, Sx.Door.u32, Sx.Door.i32, un, v, k32, a32, b32, p32, q32, and32, div32, E.den, Bi.den, Un.den, b2i, i64_bits, u64_bits, rot32_or, low32_and, low32_or, low32_xor, u32_add, u32_sub, u32_mul, u32_i64, u32_mul1, u32_low, u32_div, u32_shr]
    all_goals (try (first | omega | exact fn3_mod (by omega) | exact low32_and _ _ | exact low32_or _ _ | exact low32_xor _ _ | (rw [Int.mul_comm, u32_mul1, Int.mul_comm]; done) | rfl | (have := eq32 (u 1) (u 2); omega)))
  · intros
    have h : u 0 = 77 := by omega
    have e1 : selF valL32 (.lit 0) 77 = tr (bi .le a32 b32) := rfl
    have e2 : selF errL32 (.lit 200) 77 = .lit 0 := rfl
    simp only [h, e1, e2, den_tr_lt, den_tr_le, den_tr_eq, den_tr_ne]
    clear e1 e2
    simp_all [bi, no, Sx.Door.u64, Sx.Door.i64, Sx.Door.u32, Sx.Door.i32, un, v, k32, a32, b32, p32, q32, and32, div32, E.den, Bi.den, Un.den, b2i, i64_bits, u64_bits, rot32_or, low32_and, low32_or, low32_xor, u32_add, u32_sub, u32_mul, u32_i64, u32_mul1, u32_low, u32_div, u32_shr]
    all_goals (try (first | omega | exact fn3_mod (by omega) | exact low32_and _ _ | exact low32_or _ _ | exact low32_xor _ _ | (rw [Int.mul_comm, u32_mul1, Int.mul_comm]; done) | rfl | (have := eq32 (u 1) (u 2); omega)))
  · intros
    have h : u 0 = 77 := by omega
    have e1 : selF valL32 (.lit 0) 77 = tr (bi .le a32 b32) := rfl
    have e2 : selF errL32 (.lit 200) 77 = .lit 0 := rfl
    simp only [h, e1, e2, den_tr_lt, den_tr_le, den_tr_eq, den_tr_ne]
    clear e1 e2
    simp_all [bi, no, Sx.Door.u64, Sx.Door.i64, Sx.Door.u32, Sx.Door.i32, un, v, k32, a32, b32, p32, q32, and32, div32, E.den, Bi.den, Un.den, b2i, i64_bits, u64_bits, rot32_or, low32_and, low32_or, low32_xor, u32_add, u32_sub, u32_mul, u32_i64, u32_mul1, u32_low, u32_div, u32_shr]
    all_goals (try (first | omega | exact fn3_mod (by omega) | exact low32_and _ _ | exact low32_or _ _ | exact low32_xor _ _ | (rw [Int.mul_comm, u32_mul1, Int.mul_comm]; done) | rfl | (have := eq32 (u 1) (u 2); omega)))
  · intros
    have h : u 0 = 78 := by omega
    have e1 : selF valL32 (.lit 0) 78 = tr (bi .le q32 p32) := rfl
    have e2 : selF errL32 (.lit 200) 78 = .lit 0 := rfl
    simp only [h, e1, e2, den_tr_lt, den_tr_le, den_tr_eq, den_tr_ne]
    clear e1 e2
    simp_all [bi, no, Sx.Door.u64, Sx.Door.i64, Sx.Door.u32, Sx.Door.i32, un, v, k32, a32, b32, p32, q32, and32, div32, E.den, Bi.den, Un.den, b2i, i64_bits, u64_bits, rot32_or, low32_and, low32_or, low32_xor, u32_add, u32_sub, u32_mul, u32_i64, u32_mul1, u32_low, u32_div, u32_shr]
    all_goals (try (first | omega | exact fn3_mod (by omega) | exact low32_and _ _ | exact low32_or _ _ | exact low32_xor _ _ | (rw [Int.mul_comm, u32_mul1, Int.mul_comm]; done) | rfl | (have := eq32 (u 1) (u 2); omega)))
  · intros
    have h : u 0 = 78 := by omega
    have e1 : selF valL32 (.lit 0) 78 = tr (bi .le q32 p32) := rfl
    have e2 : selF errL32 (.lit 200) 78 = .lit 0 := rfl
    simp only [h, e1, e2, den_tr_lt, den_tr_le, den_tr_eq, den_tr_ne]
    clear e1 e2
    simp_all [bi, no, Sx.Door.u64, Sx.Door.i64, Sx.Door.u32, Sx.Door.i32, un, v, k32, a32, b32, p32, q32, and32, div32, E.den, Bi.den, Un.den, b2i, i64_bits, u64_bits, rot32_or, low32_and, low32_or, low32_xor, u32_add, u32_sub, u32_mul, u32_i64, u32_mul1, u32_low, u32_div, u32_shr]
    all_goals (try (first | omega | exact fn3_mod (by omega) | exact low32_and _ _ | exact low32_or _ _ | exact low32_xor _ _ | (rw [Int.mul_comm, u32_mul1, Int.mul_comm]; done) | rfl | (have := eq32 (u 1) (u 2); omega)))
  · intros
    have h : u 0 = 79 := by omega
    have e1 : selF valL32 (.lit 0) 79 = tr (bi .le b32 a32) := rfl
    have e2 : selF errL32 (.lit 200) 79 = .lit 0 := rfl
    simp only [h, e1, e2, den_tr_lt, den_tr_le, den_tr_eq, den_tr_ne]
    clear e1 e2
    simp_all [bi, no, Sx.Door.u64, Sx.Door.i64, Sx.Door.u32, Sx.Door.i32, un, v, k32, a32, b32, p32, q32, and32, div32, E.den, Bi.den, Un.den, b2i, i64_bits, u64_bits, rot32_or, low32_and, low32_or, low32_xor, u32_add, u32_sub, u32_mul, u32_i64, u32_mul1, u32_low, u32_div, u32_shr]
    all_goals (try (first | omega | exact fn3_mod (by omega) | exact low32_and _ _ | exact low32_or _ _ | exact low32_xor _ _ | (rw [Int.mul_comm, u32_mul1, Int.mul_comm]; done) | rfl | (have := eq32 (u 1) (u 2); omega)))
  · intros
    have h : u 0 = 79 := by omega
    have e1 : selF valL32 (.lit 0) 79 = tr (bi .le b32 a32) := rfl
    have e2 : selF errL32 (.lit 200) 79 = .lit 0 := rfl
    simp only [h, e1, e2, den_tr_lt, den_tr_le, den_tr_eq, den_tr_ne]
    clear e1 e2
    simp_all [bi, no, Sx.Door.u64, Sx.Door.i64, Sx.Door.u32, Sx.Door.i32, un, v, k32, a32, b32, p32, q32, and32, div32, E.den, Bi.den, Un.den, b2i, i64_bits, u64_bits, rot32_or, low32_and, low32_or, low32_xor, u32_add, u32_sub, u32_mul, u32_i64, u32_mul1, u32_low, u32_div, u32_shr]
    all_goals (try (first | omega | exact fn3_mod (by omega) | exact low32_and _ _ | exact low32_or _ _ | exact low32_xor _ _ | (rw [Int.mul_comm, u32_mul1, Int.mul_comm]; done) | rfl | (have := eq32 (u 1) (u 2); omega)))
  · intros
    rw [selF_none _ _ _ (by intro p hp; simp [keys32] at hp; omega), selF_none _ _ _ (by intro p hp; simp [keys32'] at hp; omega)]
    exact ⟨rfl, rfl⟩
  · intros
    rw [selF_none _ _ _ (by intro p hp; simp [keys32] at hp; omega), selF_none _ _ _ (by intro p hp; simp [keys32'] at hp; omega)]
    exact ⟨rfl, rfl⟩
  · intros
    rcases (show u 0 = 109 ∨ u 0 = 110 ∨ u 0 = 111 ∨ u 0 = 112 by omega) with h | h | h | h
    · have e1 : selF valL32 (.lit 0) 109 = .ite (bi .eq b32 (.lit 0)) (.lit 0) (.ite and32 (.lit 0) (u32 (bi .tdiv p32 q32))) := rfl
      have e2 : selF errL32 (.lit 200) 109 = div32 109 := rfl
      simp only [h, e1, e2, den_tr_lt, den_tr_le, den_tr_eq, den_tr_ne]
      clear e1 e2
      simp_all [bi, no, Sx.Door.u64, Sx.Door.i64, Sx.Door.u32, Sx.Door.i32, un, v, k32, a32, b32, p32, q32, and32, div32, E.den, Bi.den, Un.den, b2i, i64_bits, u64_bits, rot32_or, low32_and, low32_or, low32_xor, u32_add, u32_sub, u32_mul, u32_i64, u32_mul1, u32_low, u32_div, u32_shr]
      all_goals (try (first | omega | exact fn3_mod (by omega) | exact low32_and _ _ | exact low32_or _ _ | exact low32_xor _ _ | (rw [Int.mul_comm, u32_mul1, Int.mul_comm]; done) | rfl | (have := eq32 (u 1) (u 2); omega)))
    · have e1 : selF valL32 (.lit 0) 110 = .ite (bi .eq b32 (.lit 0)) (.lit 0) (bi .ediv a32 b32) := rfl
      have e2 : selF errL32 (.lit 200) 110 = div32 110 := rfl
      simp only [h, e1, e2, den_tr_lt, den_tr_le, den_tr_eq, den_tr_ne]
      clear e1 e2
      simp_all [bi, no, Sx.Door.u64, Sx.Door.i64, Sx.Door.u32, Sx.Door.i32, un, v, k32, a32, b32, p32, q32, and32, div32, E.den, Bi.den, Un.den, b2i, i64_bits, u64_bits, rot32_or, low32_and, low32_or, low32_xor, u32_add, u32_sub, u32_mul, u32_i64, u32_mul1, u32_low, u32_div, u32_shr]
      all_goals (try (first | omega | exact fn3_mod (by omega) | exact low32_and _ _ | exact low32_or _ _ | exact low32_xor _ _ | (rw [Int.mul_comm, u32_mul1, Int.mul_comm]; done) | rfl | (have := eq32 (u 1) (u 2); omega)))
    · have e1 : selF valL32 (.lit 0) 111 = .ite (bi .eq b32 (.lit 0)) (.lit 0) (u32 (bi .tmod p32 q32)) := rfl
      have e2 : selF errL32 (.lit 200) 111 = div32 111 := rfl
      simp only [h, e1, e2, den_tr_lt, den_tr_le, den_tr_eq, den_tr_ne]
      clear e1 e2
      simp_all [bi, no, Sx.Door.u64, Sx.Door.i64, Sx.Door.u32, Sx.Door.i32, un, v, k32, a32, b32, p32, q32, and32, div32, E.den, Bi.den, Un.den, b2i, i64_bits, u64_bits, rot32_or, low32_and, low32_or, low32_xor, u32_add, u32_sub, u32_mul, u32_i64, u32_mul1, u32_low, u32_div, u32_shr]
      all_goals (try (first | omega | exact fn3_mod (by omega) | exact low32_and _ _ | exact low32_or _ _ | exact low32_xor _ _ | (rw [Int.mul_comm, u32_mul1, Int.mul_comm]; done) | rfl | (have := eq32 (u 1) (u 2); omega)))
    · have e1 : selF valL32 (.lit 0) 112 = .ite (bi .eq b32 (.lit 0)) (.lit 0) (bi .emod a32 b32) := rfl
      have e2 : selF errL32 (.lit 200) 112 = div32 112 := rfl
      simp only [h, e1, e2, den_tr_lt, den_tr_le, den_tr_eq, den_tr_ne]
      clear e1 e2
      simp_all [bi, no, Sx.Door.u64, Sx.Door.i64, Sx.Door.u32, Sx.Door.i32, un, v, k32, a32, b32, p32, q32, and32, div32, E.den, Bi.den, Un.den, b2i, i64_bits, u64_bits, rot32_or, low32_and, low32_or, low32_xor, u32_add, u32_sub, u32_mul, u32_i64, u32_mul1, u32_low, u32_div, u32_shr]
      all_goals (try (first | omega | exact fn3_mod (by omega) | exact low32_and _ _ | exact low32_or _ _ | exact low32_xor _ _ | (rw [Int.mul_comm, u32_mul1, Int.mul_comm]; done) | rfl | (have := eq32 (u 1) (u 2); omega)))
  · intros
    have h : u 0 = 109 := by omega
    have e1 : selF valL32 (.lit 0) 109 = .ite (bi .eq b32 (.lit 0)) (.lit 0) (.ite and32 (.lit 0) (u32 (bi .tdiv p32 q32))) := rfl
    have e2 : selF errL32 (.lit 200) 109 = div32 109 := rfl
    simp only [h, e1, e2, den_tr_lt, den_tr_le, den_tr_eq, den_tr_ne]
    clear e1 e2
    simp_all [bi, no, Sx.Door.u64, Sx.Door.i64, Sx.Door.u32, Sx.Door.i32, un, v, k32, a32, b32, p32, q32, and32, div32, E.den, Bi.den, Un.den, b2i, i64_bits, u64_bits, rot32_or, low32_and, low32_or, low32_xor, u32_add, u32_sub, u32_mul, u32_i64, u32_mul1, u32_low, u32_div, u32_shr]
    all_goals (try (first | omega | exact fn3_mod (by omega) | exact low32_and _ _ | exact low32_or _ _ | exact low32_xor _ _ | (rw [Int.mul_comm, u32_mul1, Int.mul_comm]; done) | rfl | (have := eq32 (u 1) (u 2); omega)))
  · intros
    have h : u 0 = 109 := by omega
    have e1 : selF valL32 (.lit 0) 109 = .ite (bi .eq b32 (.lit 0)) (.lit 0) (.ite and32 (.lit 0) (u32 (bi .tdiv p32 q32))) := rfl
    have e2 : selF errL32 (.lit 200) 109 = div32 109 := rfl
    simp only [h, e1, e2, den_tr_lt, den_tr_le, den_tr_eq, den_tr_ne]
    clear e1 e2
    simp_all [bi, no, Sx.Door.u64, Sx.Door.i64, Sx.Door.u32, Sx.Door.i32, un, v, k32, a32, b32, p32, q32, and32, div32, E.den, Bi.den, Un.den, b2i, i64_bits, u64_bits, rot32_or, low32_and, low32_or, low32_xor, u32_add, u32_sub, u32_mul, u32_i64, u32_mul1, u32_low, u32_div, u32_shr]
    all_goals (try (first | omega | exact fn3_mod (by omega) | exact low32_and _ _ | exact low32_or _ _ | exact low32_xor _ _ | (rw [Int.mul_comm, u32_mul1, Int.mul_comm]; done) | rfl | (have := eq32 (u 1) (u 2); omega)))
  · intros
    have h : u 0 = 109 := by omega
    have e1 : selF valL32 (.lit 0) 109 = .ite (bi .eq b32 (.lit 0)) (.lit 0) (.ite and32 (.lit 0) (u32 (bi .tdiv p32 q32))) := rfl
    have e2 : selF errL32 (.lit 200) 109 = div32 109 := rfl
    simp only [h, e1, e2, den_tr_lt, den_tr_le, den_tr_eq, den_tr_ne]
    clear e1 e2
    simp_all [bi, no, Sx.Door.u64, Sx.Door.i64, Sx.Door.u32, Sx.Door.i32, un, v, k32, a32, b32, p32, q32, and32, div32, E.den, Bi.den, Un.den, b2i, i64_bits, u64_bits, rot32_or, low32_and, low32_or, low32_xor, u32_add, u32_sub, u32_mul, u32_i64, u32_mul1, u32_low, u32_div, u32_shr]
    all_goals (try (first | omega | exact fn3_mod (by omega) | exact low32_and _ _ | exact low32_or _ _ | exact low32_xor _ _ | (rw [Int.mul_comm, u32_mul1, Int.mul_comm]; done) | rfl | (have := eq32 (u 1) (u 2); omega)))
  · intros
    have h : u 0 = 110 := by omega
    have e1 : selF valL32 (.lit 0) 110 = .ite (bi .eq b32 (.lit 0)) (.lit 0) (bi .ediv a32 b32) := rfl
    have e2 : selF errL32 (.lit 200) 110 = div32 110 := rfl
    simp only [h, e1, e2, den_tr_lt, den_tr_le, den_tr_eq, den_tr_ne]
    clear e1 e2
    simp_all [bi, no, Sx.Door.u64, Sx.Door.i64, Sx.Door.u32, Sx.Door.i32, un, v, k32, a32, b32, p32, q32, and32, div32, E.den, Bi.den, Un.den, b2i, i64_bits, u64_bits, rot32_or, low32_and, low32_or, low32_xor, u32_add, u32_sub, u32_mul, u32_i64, u32_mul1, u32_low, u32_div, u32_shr]
    all_goals (try (first | omega | exact fn3_mod (by omega) | exact low32_and _ _ | exact low32_or _ _ | exact low32_xor _ _ | (rw [Int.mul_comm, u32_mul1, Int.mul_comm]; done) | rfl | (have := eq32 (u 1) (u 2); omega)))
  · intros
    have h : u 0 = 111 := by omega
    have e1 : selF valL32 (.lit 0) 111 = .ite (bi .eq b32 (.lit 0)) (.lit 0) (u32 (bi .tmod p32 q32)) := rfl
    have e2 : selF errL32 (.lit 200) 111 = div32 111 := rfl
    simp only [h, e1, e2, den_tr_lt, den_tr_le, den_tr_eq, den_tr_ne]
    clear e1 e2
    simp_all [bi, no, Sx.Door.u64, Sx.Door.i64, Sx.Door.u32, Sx.Door.i32, un, v, k32, a32, b32, p32, q32, and32, div32, E.den, Bi.den, Un.den, b2i, i64_bits, u64_bits, rot32_or, low32_and, low32_or, low32_xor, u32_add, u32_sub, u32_mul, u32_i64, u32_mul1, u32_low, u32_div, u32_shr]
    all_goals (try (first | omega | exact fn3_mod (by omega) | exact low32_and _ _ | exact low32_or _ _ | exact low32_xor _ _ | (rw [Int.mul_comm, u32_mul1, Int.mul_comm]; done) | rfl | (have := eq32 (u 1) (u 2); omega)))
  · intros
    have h : u 0 = 112 := by omega
    have e1 : selF valL32 (.lit 0) 112 = .ite (bi .eq b32 (.lit 0)) (.lit 0) (bi .emod a32 b32) := rfl
    have e2 : selF errL32 (.lit 200) 112 = div32 112 := rfl
    simp only [h, e1, e2, den_tr_lt, den_tr_le, den_tr_eq, den_tr_ne]
    clear e1 e2
    simp_all [bi, no, Sx.Door.u64, Sx.Door.i64, Sx.Door.u32, Sx.Door.i32, un, v, k32, a32, b32, p32, q32, and32, div32, E.den, Bi.den, Un.den, b2i, i64_bits, u64_bits, rot32_or, low32_and, low32_or, low32_xor, u32_add, u32_sub, u32_mul, u32_i64, u32_mul1, u32_low, u32_div, u32_shr]
    all_goals (try (first | omega | exact fn3_mod (by omega) | exact low32_and _ _ | exact low32_or _ _ | exact low32_xor _ _ | (rw [Int.mul_comm, u32_mul1, Int.mul_comm]; done) | rfl | (have := eq32 (u 1) (u 2); omega)))
  · intros
    have h : u 0 = 113 := by omega
    have e1 : selF valL32 (.lit 0) 113 = u32 (bi (.bits .and .i64) (v 1) (v 2)) := rfl
    have e2 : selF errL32 (.lit 200) 113 = .lit 0 := rfl
    simp only [h, e1, e2, den_tr_lt, den_tr_le, den_tr_eq, den_tr_ne]
    clear e1 e2
    simp_all [bi, no, Sx.Door.u64, Sx.Door.i64, Sx.Door.u32, Sx.Door.i32, un, v, k32, a32, b32, p32, q32, and32, div32, E.den, Bi.den, Un.den, b2i, i64_bits, u64_bits, rot32_or, low32_and, low32_or, low32_xor, u32_add, u32_sub, u32_mul, u32_i64, u32_mul1, u32_low, u32_div, u32_shr]
    all_goals (try (first | omega | exact fn3_mod (by omega) | exact low32_and _ _ | exact low32_or _ _ | exact low32_xor _ _ | (rw [Int.mul_comm, u32_mul1, Int.mul_comm]; done) | rfl | (have := eq32 (u 1) (u 2); omega)))
  · intros
    have h : u 0 = 114 := by omega
    have e1 : selF valL32 (.lit 0) 114 = u32 (bi (.bits .or .i64) (v 1) (v 2)) := rfl
    have e2 : selF errL32 (.lit 200) 114 = .lit 0 := rfl
    simp only [h, e1, e2, den_tr_lt, den_tr_le, den_tr_eq, den_tr_ne]
    clear e1 e2
    simp_all [bi, no, Sx.Door.u64, Sx.Door.i64, Sx.Door.u32, Sx.Door.i32, un, v, k32, a32, b32, p32, q32, and32, div32, E.den, Bi.den, Un.den, b2i, i64_bits, u64_bits, rot32_or, low32_and, low32_or, low32_xor, u32_add, u32_sub, u32_mul, u32_i64, u32_mul1, u32_low, u32_div, u32_shr]
    all_goals (try (first | omega | exact fn3_mod (by omega) | exact low32_and _ _ | exact low32_or _ _ | exact low32_xor _ _ | (rw [Int.mul_comm, u32_mul1, Int.mul_comm]; done) | rfl | (have := eq32 (u 1) (u 2); omega)))
  · intros
    have h : u 0 = 115 := by omega
    have e1 : selF valL32 (.lit 0) 115 = u32 (bi (.bits .xor .i64) (v 1) (v 2)) := rfl
    have e2 : selF errL32 (.lit 200) 115 = .lit 0 := rfl
    simp only [h, e1, e2, den_tr_lt, den_tr_le, den_tr_eq, den_tr_ne]
    clear e1 e2
    simp_all [bi, no, Sx.Door.u64, Sx.Door.i64, Sx.Door.u32, Sx.Door.i32, un, v, k32, a32, b32, p32, q32, and32, div32, E.den, Bi.den, Un.den, b2i, i64_bits, u64_bits, rot32_or, low32_and, low32_or, low32_xor, u32_add, u32_sub, u32_mul, u32_i64, u32_mul1, u32_low, u32_div, u32_shr]
    all_goals (try (first | omega | exact fn3_mod (by omega) | exact low32_and _ _ | exact low32_or _ _ | exact low32_xor _ _ | (rw [Int.mul_comm, u32_mul1, Int.mul_comm]; done) | rfl | (have := eq32 (u 1) (u 2); omega)))
  · intros
    have h : u 0 = 116 := by omega
    have e1 : selF valL32 (.lit 0) 116 = u32 (bi (.shl .i64) (v 1) k32) := rfl
    have e2 : selF errL32 (.lit 200) 116 = .lit 0 := rfl
    simp only [h, e1, e2, den_tr_lt, den_tr_le, den_tr_eq, den_tr_ne]
    clear e1 e2
    simp_all [bi, no, Sx.Door.u64, Sx.Door.i64, Sx.Door.u32, Sx.Door.i32, un, v, k32, a32, b32, p32, q32, and32, div32, E.den, Bi.den, Un.den, b2i, i64_bits, u64_bits, rot32_or, low32_and, low32_or, low32_xor, u32_add, u32_sub, u32_mul, u32_i64, u32_mul1, u32_low, u32_div, u32_shr]
    all_goals (try (first | omega | exact fn3_mod (by omega) | exact low32_and _ _ | exact low32_or _ _ | exact low32_xor _ _ | (rw [Int.mul_comm, u32_mul1, Int.mul_comm]; done) | rfl | (have := eq32 (u 1) (u 2); omega)))
  · intros
    have h : u 0 = 117 := by omega
    have e1 : selF valL32 (.lit 0) 117 = u32 (bi (.shr .i64) p32 k32) := rfl
    have e2 : selF errL32 (.lit 200) 117 = .lit 0 := rfl
    simp only [h, e1, e2, den_tr_lt, den_tr_le, den_tr_eq, den_tr_ne]
    clear e1 e2
    simp_all [bi, no, Sx.Door.u64, Sx.Door.i64, Sx.Door.u32, Sx.Door.i32, un, v, k32, a32, b32, p32, q32, and32, div32, E.den, Bi.den, Un.den, b2i, i64_bits, u64_bits, rot32_or, low32_and, low32_or, low32_xor, u32_add, u32_sub, u32_mul, u32_i64, u32_mul1, u32_low, u32_div, u32_shr]
    all_goals (try (first | omega | exact fn3_mod (by omega) | exact low32_and _ _ | exact low32_or _ _ | exact low32_xor _ _ | (rw [Int.mul_comm, u32_mul1, Int.mul_comm]; done) | rfl | (have := eq32 (u 1) (u 2); omega)))
  · intros
    have h : u 0 = 118 := by omega
    have e1 : selF valL32 (.lit 0) 118 = bi (.shr .i64) a32 k32 := rfl
    have e2 : selF errL32 (.lit 200) 118 = .lit 0 := rfl
    simp only [h, e1, e2, den_tr_lt, den_tr_le, den_tr_eq, den_tr_ne]
    clear e1 e2
    simp_all [bi, no, Sx.Door.u64, Sx.Door.i64, Sx.Door.u32, Sx.Door.i32, un, v, k32, a32, b32, p32, q32, and32, div32, E.den, Bi.den, Un.den, b2i, i64_bits, u64_bits, rot32_or, low32_and, low32_or, low32_xor, u32_add, u32_sub, u32_mul, u32_i64, u32_mul1, u32_low, u32_div, u32_shr]
    all_goals (try (first | omega | exact fn3_mod (by omega) | exact low32_and _ _ | exact low32_or _ _ | exact low32_xor _ _ | (rw [Int.mul_comm, u32_mul1, Int.mul_comm]; done) | rfl | (have := eq32 (u 1) (u 2); omega)))
  · intros
    have h : u 0 = 119 := by omega
    have e1 : selF valL32 (.lit 0) 119 = .fn 3 a32 (.lit 32) k32 := rfl
    have e2 : selF errL32 (.lit 200) 119 = .lit 0 := rfl
    simp only [h, e1, e2, den_tr_lt, den_tr_le, den_tr_eq, den_tr_ne]
    clear e1 e2
    simp_all [bi, no, Sx.Door.u64, Sx.Door.i64, Sx.Door.u32, Sx.Door.i32, un, v, k32, a32, b32, p32, q32, and32, div32, E.den, Bi.den, Un.den, b2i, i64_bits, u64_bits, rot32_or, low32_and, low32_or, low32_xor, u32_add, u32_sub, u32_mul, u32_i64, u32_mul1, u32_low, u32_div, u32_shr]
    all_goals (try (first | omega | exact fn3_mod (by omega) | exact low32_and _ _ | exact low32_or _ _ | exact low32_xor _ _ | (rw [Int.mul_comm, u32_mul1, Int.mul_comm]; done) | rfl | (have := eq32 (u 1) (u 2); omega)))
  · intros
    have h : u 0 = 120 := by omega
    have e1 : selF valL32 (.lit 0) 120 = .fn 3 a32 (.lit 32) (bi .sub (.lit 32) k32) := rfl
    have e2 : selF errL32 (.lit 200) 120 = .lit 0 := rfl
    simp only [h, e1, e2, den_tr_lt, den_tr_le, den_tr_eq, den_tr_ne]
    clear e1 e2
    simp_all [bi, no, Sx.Door.u64, Sx.Door.i64, Sx.Door.u32, Sx.Door.i32, un, v, k32, a32, b32, p32, q32, and32, div32, E.den, Bi.den, Un.den, b2i, i64_bits, u64_bits, rot32_or, low32_and, low32_or, low32_xor, u32_add, u32_sub, u32_mul, u32_i64, u32_mul1, u32_low, u32_div, u32_shr]
    all_goals (try (first | omega | exact fn3_mod (by omega) | exact low32_and _ _ | exact low32_or _ _ | exact low32_xor _ _ | (rw [Int.mul_comm, u32_mul1, Int.mul_comm]; done) | rfl | (have := eq32 (u 1) (u 2); omega)))
  · intros
    have h : u 0 = 106 := by omega
    have e1 : selF valL32 (.lit 0) 106 = u32 (bi .add (v 1) (v 2)) := rfl
    have e2 : selF errL32 (.lit 200) 106 = .lit 0 := rfl
    simp only [h, e1, e2, den_tr_lt, den_tr_le, den_tr_eq, den_tr_ne]
    clear e1 e2
    simp_all [bi, no, Sx.Door.u64, Sx.Door.i64, Sx.Door.u32, Sx.Door.i32, un, v, k32, a32, b32, p32, q32, and32, div32, E.den, Bi.den, Un.den, b2i, i64_bits, u64_bits, rot32_or, low32_and, low32_or, low32_xor, u32_add, u32_sub, u32_mul, u32_i64, u32_mul1, u32_low, u32_div, u32_shr]
    all_goals (try (first | omega | exact fn3_mod (by omega) | exact low32_and _ _ | exact low32_or _ _ | exact low32_xor _ _ | (rw [Int.mul_comm, u32_mul1, Int.mul_comm]; done) | rfl | (have := eq32 (u 1) (u 2); omega)))
  · intros
    have h : u 0 = 107 := by omega
    have e1 : selF valL32 (.lit 0) 107 = u32 (bi .sub (v 1) (v 2)) := rfl
    have e2 : selF errL32 (.lit 200) 107 = .lit 0 := rfl
    simp only [h, e1, e2, den_tr_lt, den_tr_le, den_tr_eq, den_tr_ne]
    clear e1 e2
    simp_all [bi, no, Sx.Door.u64, Sx.Door.i64, Sx.Door.u32, Sx.Door.i32, un, v, k32, a32, b32, p32, q32, and32, div32, E.den, Bi.den, Un.den, b2i, i64_bits, u64_bits, rot32_or, low32_and, low32_or, low32_xor, u32_add, u32_sub, u32_mul, u32_i64, u32_mul1, u32_low, u32_div, u32_shr]
    all_goals (try (first | omega | exact fn3_mod (by omega) | exact low32_and _ _ | exact low32_or _ _ | exact low32_xor _ _ | (rw [Int.mul_comm, u32_mul1, Int.mul_comm]; done) | rfl | (have := eq32 (u 1) (u 2); omega)))
  · intros
    have h : u 0 = 108 := by omega
    have e1 : selF valL32 (.lit 0) 108 = u32 (bi .mul (v 1) (v 2)) := rfl
    have e2 : selF errL32 (.lit 200) 108 = .lit 0 := rfl
    simp only [h, e1, e2, den_tr_lt, den_tr_le, den_tr_eq, den_tr_ne]
    clear e1 e2
    simp_all [bi, no, Sx.Door.u64, Sx.Door.i64, Sx.Door.u32, Sx.Door.i32, un, v, k32, a32, b32, p32, q32, and32, div32, E.den, Bi.den, Un.den, b2i, i64_bits, u64_bits, rot32_or, low32_and, low32_or, low32_xor, u32_add, u32_sub, u32_mul, u32_i64, u32_mul1, u32_low, u32_div, u32_shr]
    all_goals (try (first | omega | exact fn3_mod (by omega) | exact low32_and _ _ | exact low32_or _ _ | exact low32_xor _ _ | (rw [Int.mul_comm, u32_mul1, Int.mul_comm]; done) | rfl | (have := eq32 (u 1) (u 2); omega)))
  · intros
    rw [selF_none _ _ _ (by intro p hp; simp [keys32] at hp; omega), selF_none _ _ _ (by intro p hp; simp [keys32'] at hp; omega)]
    exact ⟨rfl, rfl⟩

theorem ba_plain (u : Nat → Int) : Keeps ⟨u, fnT⟩ ((binSp32 48)).res baR := by
  simp only [binSp32, baR, Keeps, chain, unOne2, SameL, E.prop, E.den, Bi.den, Un.den, true_and, and_true, binV32_den, binE32_den, i64_bits, u64_bits]
  refine ⟨?_, ?_, ?_, ?_, ?_, ?_, ?_, ?_, ?_, ?_, ?_, ?_, ?_, ?_, ?_, ?_, ?_, ?_, ?_, ?_, ?_, ?_, ?_, ?_, ?_, ?_, ?_, ?_, ?_, ?_, ?_, ?_, ?_, ?_, ?_, ?_, ?_, ?_, ?_, ?_, ?_, ?_, ?_, ?_, ?_, ?_, ?_, ?_, ?_, ?_, ?_, ?_, ?_, ?_, ?_, ?_, ?_⟩
  · intros
    exfalso; omega
  · intros
    exfalso; omega
  · intros
    have h : u 0 = 73 := by omega
    have e1 : selF valL32 (.lit 0) 73 = tr (bi .lt a32 b32) := rfl
    have e2 : selF errL32 (.lit 200) 73 = .lit 0 := rfl
    simp only [h, e1, e2, den_tr_lt, den_tr_le, den_tr_eq, den_tr_ne]
    clear e1 e2
    simp_all [bi, no, Sx.Door.u64, Sx.Door.i64, Sx.Door.u32, Sx.Door.i32, un, v, k32, a32, b32, p32, q32, and32, div32, E.den, Bi.den, Un.den, b2i, i64_bits, u64_bits, rot32_or, low32_and, low32_or, low32_xor, u32_add, u32_sub, u32_mul, u32_i64, u32_mul1, u32_low, u32_div, u32_shr]
    all_goals (try (first | omega | exact fn3_mod (by omega) | exact low32_and _ _ | exact low32_or _ _ | exact low32_xor _ _ | (rw [Int.mul_comm, u32_mul1, Int.mul_comm]; done) | rfl | (have := eq32 (u 1) (u 2); omega)))
  · intros
    have h : u 0 = 73 := by omega
    have e1 : selF valL32 (.lit 0) 73 = tr (bi .lt a32 b32) := rfl
    have e2 : selF errL32 (.lit 200) 73 = .lit 0 := rfl
    simp only [h, e1, e2, den_tr_lt, den_tr_le, den_tr_eq, den_tr_ne]
    clear e1 e2
    simp_all [bi, no, Sx.Door.u64, Sx.Door.i64, Sx.Door.u32, Sx.Door.i32, un, v, k32, a32, b32, p32, q32, and32, div32, E.den, Bi.den, Un.den, b2i, i64_bits, u64_bits, rot32_or, low32_and, low32_or, low32_xor, u32_add, u32_sub, u32_mul, u32_i64, u32_mul1, u32_low, u32_div, u32_shr]
    all_goals (try (first | omega | exact fn3_mod (by omega) | exact low32_and _ _ | exact low32_or _ _ | exact low32_xor _ _ | (rw [Int.mul_comm, u32_mul1, Int.mul_comm]; done) | rfl | (have := eq32 (u 1) (u 2); omega)))
  · intros
    exfalso; omega
  · intros
    exfalso; omega
  · intros
    have h : u 0 = 75 := by omega
    have e1 : selF valL32 (.lit 0) 75 = tr (bi .lt b32 a32) := rfl
    have e2 : selF errL32 (.lit 200) 75 = .lit 0 := rfl
    simp only [h, e1, e2, den_tr_lt, den_tr_le, den_tr_eq, den_tr_ne]
    clear e1 e2
    simp_all [bi, no, Sx.Door.u64, Sx.Door.i64, Sx.Door.u32, Sx.Door.i32, un, v, k32, a32, b32, p32, q32, and32, div32, E.den, Bi.den, Un.den, b2i, i64_bits, u64_bits, rot32_or, low32_and, low32_or, low32_xor, u32_add, u32_sub, u32_mul, u32_i64, u32_mul1, u32_low, u32_div, u32_shr]
    all_goals (try (first | omega | exact fn3_mod (by omega) | exact low32_and _ _ | exact low32_or _ _ | exact low32_xor _ _ | (rw [Int.mul_comm, u32_mul1, Int.mul_comm]; done) | rfl | (have := eq32 (u 1) (u 2); omega)))
  · intros
    have h : u 0 = 75 := by omega
    have e1 : selF valL32 (.lit 0) 75 = tr (bi .lt b32 a32) := rfl
    have e2 : selF errL32 (.lit 200) 75 = .lit 0 := rfl
    simp only [h, e1, e2, den_tr_lt, den_tr_le, den_tr_eq, den_tr_ne]
    clear e1 e2
    simp_all [bi, no, Sx.Door.u64, Sx.Door.i64, Sx.Door.u32, Sx.Door.i32, un, v, k32, a32, b32, p32, q32, and32, div32, E.den, Bi.den, Un.den, b2i, i64_bits, u64_bits, rot32_or, low32_and, low32_or, low32_xor, u32_add, u32_sub, u32_mul, u32_i64, u32_mul1, u32_low, u32_div, u32_shr]
    all_goals (try (first | omega | exact fn3_mod (by omega) | exact low32_and _ _ | exact low32_or _ _ | exact low32_xor _ _ | (rw [Int.mul_comm, u32_mul1, Int.mul_comm]; done) | rfl | (have := eq32 (u 1) (u 2); omega)))
  · intros
    exfalso; omega
  · intros
    exfalso; omega
  · intros
    have h : u 0 = 77 := by omega
    have e1 : selF valL32 (.lit 0) 77 = tr (bi .le a32 b32) := rfl
    have e2 : selF errL32 (.lit 200) 77 = .lit 0 := rfl
    simp only [h, e1, e2, den_tr_lt, den_tr_le, den_tr_eq, den_tr_ne]
    clear e1 e2
    simp_all [bi, no, Sx.Door.u64, Sx.Door.i64, Sx.Door.u32, Sx.Door.i32, un, v, k32, a32, b32, p32, q32, and32, div32, E.den, Bi.den, Un.den, b2i, i64_bits, u64_bits, rot32_or, low32_and, low32_or, low32_xor, u32_add, u32_sub, u32_mul, u32_i64, u32_mul1, u32_low, u32_div, u32_shr]
    all_goals (try (first | omega | exact fn3_mod (by omega) | exact low32_and _ _ | exact low32_or _ _ | exact low32_xor _ _ | (rw [Int.mul_comm, u32_mul1, Int.mul_comm]; done) | rfl | (have := eq32 (u 1) (u 2); omega)))
  · intros
    have h : u 0 = 77 := by omega
    have e1 : selF valL32 (.lit 0) 77 = tr (bi .le a32 b32) := rfl
    have e2 : selF errL32 (.lit 200) 77 = .lit 0 := rfl
    simp only [h, e1, e2, den_tr_lt, den_tr_le, den_tr_eq, den_tr_ne]
    clear e1 e2
    simp_all [bi, no, Sx.Door.u64, Sx.Door.i64, Sx.Door.u32, Sx.Door.i32, un, v, k32, a32, b32, p32, q32, and32, div32, E.den, Bi.den, Un.den, b2i, i64_bits, u64_bits, rot32_or, low32_and, low32_or, low32_xor, u32_add, u32_sub, u32_mul, u32_i64, u32_mul1, u32_low, u32_div, u32_shr]
    all_goals (try (first | omega | exact fn3_mod (by omega) | exact low32_and _ _ | exact low32_or _ _ | exact low32_xor _ _ | (rw [Int.mul_comm, u32_mul1, Int.mul_comm]; done) | rfl | (have := eq32 (u 1) (u 2); omega)))
  · intros
    have h : u 0 = 79 := by omega
    have e1 : selF valL32 (.lit 0) 79 = tr (bi .le b32 a32) := rfl
    have e2 : selF errL32 (.lit 200) 79 = .lit 0 := rfl
    simp only [h, e1, e2, den_tr_lt, den_tr_le, den_tr_eq, den_tr_ne]
    clear e1 e2
    simp_all [bi, no, Sx.Door.u64, Sx.Door.i64, Sx.Door.u32, Sx.Door.i32, un, v, k32, a32, b32, p32, q32, and32, div32, E.den, Bi.den, Un.den, b2i, i64_bits, u64_bits, rot32_or, low32_and, low32_or, low32_xor, u32_add, u32_sub, u32_mul, u32_i64, u32_mul1, u32_low, u32_div, u32_shr]
    all_goals (try (first | omega | exact fn3_mod (by omega) | exact low32_and _ _ | exact low32_or _ _ | exact low32_xor _ _ | (rw [Int.mul_comm, u32_mul1, Int.mul_comm]; done) | rfl | (have := eq32 (u 1) (u 2); omega)))
  · intros
    have h : u 0 = 79 := by omega
    have e1 : selF valL32 (.lit 0) 79 = tr (bi .le b32 a32) := rfl
    have e2 : selF errL32 (.lit 200) 79 = .lit 0 := rfl
    simp only [h, e1, e2, den_tr_lt, den_tr_le, den_tr_eq, den_tr_ne]
    clear e1 e2
    simp_all [bi, no, Sx.Door.u64, Sx.Door.i64, Sx.Door.u32, Sx.Door.i32, un, v, k32, a32, b32, p32, q32, and32, div32, E.den, Bi.den, Un.den, b2i, i64_bits, u64_bits, rot32_or, low32_and, low32_or, low32_xor, u32_add, u32_sub, u32_mul, u32_i64, u32_mul1, u32_low, u32_div, u32_shr]
    all_goals (try (first | omega | exact fn3_mod (by omega) | exact low32_and _ _ | exact low32_or _ _ | exact low32_xor _ _ | (rw [Int.mul_comm, u32_mul1, Int.mul_comm]; done) | rfl | (have := eq32 (u 1) (u 2); omega)))
  · intros
    have h : u 0 = 72 := by omega
    have e1 : selF valL32 (.lit 0) 72 = tr (bi .lt p32 q32) := rfl
    have e2 : selF errL32 (.lit 200) 72 = .lit 0 := rfl
    simp only [h, e1, e2, den_tr_lt, den_tr_le, den_tr_eq, den_tr_ne]
    clear e1 e2
    simp_all [bi, no, Sx.Door.u64, Sx.Door.i64, Sx.Door.u32, Sx.Door.i32, un, v, k32, a32, b32, p32, q32, and32, div32, E.den, Bi.den, Un.den, b2i, i64_bits, u64_bits, rot32_or, low32_and, low32_or, low32_xor, u32_add, u32_sub, u32_mul, u32_i64, u32_mul1, u32_low, u32_div, u32_shr]
    all_goals (try (first | omega | exact fn3_mod (by omega) | exact low32_and _ _ | exact low32_or _ _ | exact low32_xor _ _ | (rw [Int.mul_comm, u32_mul1, Int.mul_comm]; done) | rfl | (have := eq32 (u 1) (u 2); omega)))
  · intros
    have h : u 0 = 72 := by omega
    have e1 : selF valL32 (.lit 0) 72 = tr (bi .lt p32 q32) := rfl
    have e2 : selF errL32 (.lit 200) 72 = .lit 0 := rfl
    simp only [h, e1, e2, den_tr_lt, den_tr_le, den_tr_eq, den_tr_ne]
    clear e1 e2
    simp_all [bi, no, Sx.Door.u64, Sx.Door.i64, Sx.Door.u32, Sx.Door.i32, un, v, k32, a32, b32, p32, q32, and32, div32, E.den, Bi.den, Un.den, b2i, i64_bits, u64_bits, rot32_or, low32_and, low32_or, low32_xor, u32_add, u32_sub, u32_mul, u32_i64, u32_mul1, u32_low, u32_div, u32_shr]
    all_goals (try (first | omega | exact fn3_mod (by omega) | exact low32_and _ _ | exact low32_or _ _ | exact low32_xor _ _ | (rw [Int.mul_comm, u32_mul1, Int.mul_comm]; done) | rfl | (have := eq32 (u 1) (u 2); omega)))
  · intros
    exfalso; omega
  · intros
    exfalso; omega
  · intros
    have h : u 0 = 74 := by omega
    have e1 : selF valL32 (.lit 0) 74 = tr (bi .lt q32 p32) := rfl
    have e2 : selF errL32 (.lit 200) 74 = .lit 0 := rfl
    simp only [h, e1, e2, den_tr_lt, den_tr_le, den_tr_eq, den_tr_ne]
    clear e1 e2
    simp_all [bi, no, Sx.Door.u64, Sx.Door.i64, Sx.Door.u32, Sx.Door.i32, un, v, k32, a32, b32, p32, q32, and32, div32, E.den, Bi.den, Un.den, b2i, i64_bits, u64_bits, rot32_or, low32_and, low32_or, low32_xor, u32_add, u32_sub, u32_mul, u32_i64, u32_mul1, u32_low, u32_div, u32_shr]
    all_goals (try (first | omega | exact fn3_mod (by omega) | exact low32_and _ _ | exact low32_or _ _ | exact low32_xor _ _ | (rw [Int.mul_comm, u32_mul1, Int.mul_comm]; done) | rfl | (have := eq32 (u 1) (u 2); omega)))
  · intros
    have h : u 0 = 74 := by omega
    have e1 : selF valL32 (.lit 0) 74 = tr (bi .lt q32 p32) := rfl
    have e2 : selF errL32 (.lit 200) 74 = .lit 0 := rfl
    simp only [h, e1, e2, den_tr_lt, den_tr_le, den_tr_eq, den_tr_ne]
    clear e1 e2
    simp_all [bi, no, Sx.Door.u64, Sx.Door.i64, Sx.Door.u32, Sx.Door.i32, un, v, k32, a32, b32, p32, q32, and32, div32, E.den, Bi.den, Un.den, b2i, i64_bits, u64_bits, rot32_or, low32_and, low32_or, low32_xor, u32_add, u32_sub, u32_mul, u32_i64, u32_mul1, u32_low, u32_div, u32_shr]
    all_goals (try (first | omega | exact fn3_mod (by omega) | exact low32_and _ _ | exact low32_or _ _ | exact low32_xor _ _ | (rw [Int.mul_comm, u32_mul1, Int.mul_comm]; done) | rfl | (have := eq32 (u 1) (u 2); omega)))
  · intros
    exfalso; omega
  · intros
    exfalso; omega
  · intros
    have h : u 0 = 76 := by omega
    have e1 : selF valL32 (.lit 0) 76 = tr (bi .le p32 q32) := rfl
    have e2 : selF errL32 (.lit 200) 76 = .lit 0 := rfl
    simp only [h, e1, e2, den_tr_lt, den_tr_le, den_tr_eq, den_tr_ne]
    clear e1 e2
    simp_all [bi, no, Sx.Door.u64, Sx.Door.i64, Sx.Door.u32, Sx.Door.i32, un, v, k32, a32, b32, p32, q32, and32, div32, E.den, Bi.den, Un.den, b2i, i64_bits, u64_bits, rot32_or, low32_and, low32_or, low32_xor, u32_add, u32_sub, u32_mul, u32_i64, u32_mul1, u32_low, u32_div, u32_shr]
    all_goals (try (first | omega | exact fn3_mod (by omega) | exact low32_and _ _ | exact low32_or _ _ | exact low32_xor _ _ | (rw [Int.mul_comm, u32_mul1, Int.mul_comm]; done) | rfl | (have := eq32 (u 1) (u 2); omega)))
  · intros
    have h : u 0 = 76 := by omega
    have e1 : selF valL32 (.lit 0) 76 = tr (bi .le p32 q32) := rfl
    have e2 : selF errL32 (.lit 200) 76 = .lit 0 := rfl
    simp only [h, e1, e2, den_tr_lt, den_tr_le, den_tr_eq, den_tr_ne]
    clear e1 e2
    simp_all [bi, no, Sx.Door.u64, Sx.Door.i64, Sx.Door.u32, Sx.Door.i32, un, v, k32, a32, b32, p32, q32, and32, div32, E.den, Bi.den, Un.den, b2i, i64_bits, u64_bits, rot32_or, low32_and, low32_or, low32_xor, u32_add, u32_sub, u32_mul, u32_i64, u32_mul1, u32_low, u32_div, u32_shr]
    all_goals (try (first | omega | exact fn3_mod (by omega) | exact low32_and _ _ | exact low32_or _ _ | exact low32_xor _ _ | (rw [Int.mul_comm, u32_mul1, Int.mul_comm]; done) | rfl | (have := eq32 (u 1) (u 2); omega)))
  · intros
    exfalso; omega
  · intros
    exfalso; omega
  · intros
    have h : u 0 = 78 := by omega
    have e1 : selF valL32 (.lit 0) 78 = tr (bi .le q32 p32) := rfl
    have e2 : selF errL32 (.lit 200) 78 = .lit 0 := rfl
    simp only [h, e1, e2, den_tr_lt, den_tr_le, den_tr_eq, den_tr_ne]
    clear e1 e2
    simp_all [bi, no, Sx.Door.u64, Sx.Door.i64, Sx.Door.u32, Sx.Door.i32, un, v, k32, a32, b32, p32, q32, and32, div32, E.den, Bi.den, Un.den, b2i, i64_bits, u64_bits, rot32_or, low32_and, low32_or, low32_xor, u32_add, u32_sub, u32_mul, u32_i64, u32_mul1, u32_low, u32_div, u32_shr]
    all_goals (try (first | omega | exact fn3_mod (by omega) | exact low32_and _ _ | exact low32_or _ _ | exact low32_xor _ _ | (rw [Int.mul_comm, u32_mul1, Int.mul_comm]; done) | rfl | (have := eq32 (u 1) (u 2); omega)))
  · intros
    have h : u 0 = 78 := by omega
    have e1 : selF valL32 (.lit 0) 78 = tr (bi .le q32 p32) := rfl
    have e2 : selF errL32 (.lit 200) 78 = .lit 0 := rfl
    simp only [h, e1, e2, den_tr_lt, den_tr_le, den_tr_eq, den_tr_ne]
    clear e1 e2
    simp_all [bi, no, Sx.Door.u64, Sx.Door.i64, Sx.Door.u32, Sx.Door.i32, un, v, k32, a32, b32, p32, q32, and32, div32, E.den, Bi.den, Un.den, b2i, i64_bits, u64_bits, rot32_or, low32_and, low32_or, low32_xor, u32_add, u32_sub, u32_mul, u32_i64, u32_mul1, u32_low, u32_div, u32_shr]
    all_goals (try (first | omega | exact fn3_mod (by omega) | exact low32_and _ _ | exact low32_or _ _ | exact low32_xor _ _ | (rw [Int.mul_comm, u32_mul1, Int.mul_comm]; done) | rfl | (have := eq32 (u 1) (u 2); omega)))
  · intros
    have h : u 0 = 70 := by omega
    have e1 : selF valL32 (.lit 0) 70 = tr (bi .eq a32 b32) := rfl
    have e2 : selF errL32 (.lit 200) 70 = .lit 0 := rfl
    simp only [h, e1, e2, den_tr_lt, den_tr_le, den_tr_eq, den_tr_ne]
    clear e1 e2
    simp_all [bi, no, Sx.Door.u64, Sx.Door.i64, Sx.Door.u32, Sx.Door.i32, un, v, k32, a32, b32, p32, q32, and32, div32, E.den, Bi.den, Un.den, b2i, i64_bits, u64_bits, rot32_or, low32_and, low32_or, low32_xor, u32_add, u32_sub, u32_mul, u32_i64, u32_mul1, u32_low, u32_div, u32_shr]
    all_goals (try (first | omega | exact fn3_mod (by omega) | exact low32_and _ _ | exact low32_or _ _ | exact low32_xor _ _ | (rw [Int.mul_comm, u32_mul1, Int.mul_comm]; done) | rfl | (have := eq32 (u 1) (u 2); omega)))
  · intros
    have h : u 0 = 70 := by omega
    have e1 : selF valL32 (.lit 0) 70 = tr (bi .eq a32 b32) := rfl
    have e2 : selF errL32 (.lit 200) 70 = .lit 0 := rfl
    simp only [h, e1, e2, den_tr_lt, den_tr_le, den_tr_eq, den_tr_ne]
    clear e1 e2
    simp_all [bi, no, Sx.Door.u64, Sx.Door.i64, Sx.Door.u32, Sx.Door.i32, un, v, k32, a32, b32, p32, q32, and32, div32, E.den, Bi.den, Un.den, b2i, i64_bits, u64_bits, rot32_or, low32_and, low32_or, low32_xor, u32_add, u32_sub, u32_mul, u32_i64, u32_mul1, u32_low, u32_div, u32_shr]
    all_goals (try (first | omega | exact fn3_mod (by omega) | exact low32_and _ _ | exact low32_or _ _ | exact low32_xor _ _ | (rw [Int.mul_comm, u32_mul1, Int.mul_comm]; done) | rfl | (have := eq32 (u 1) (u 2); omega)))
  · intros
    have h : u 0 = 71 := by omega
    have e1 : selF valL32 (.lit 0) 71 = tr (no (bi .eq a32 b32)) := rfl
    have e2 : selF errL32 (.lit 200) 71 = .lit 0 := rfl
    simp only [h, e1, e2, den_tr_lt, den_tr_le, den_tr_eq, den_tr_ne]
    clear e1 e2
    simp_all [bi, no, Sx.Door.u64, Sx.Door.i64, Sx.Door.u32, Sx.Door.i32, un, v, k32, a32, b32, p32, q32, and32, div32, E.den, Bi.den, Un.den, b2i, i64_bits, u64_bits, rot32_or, low32_and, low32_or, low32_xor, u32_add, u32_sub, u32_mul, u32_i64, u32_mul1, u32_low, u32_div, u32_shr]
    all_goals (try (first | omega | exact fn3_mod (by omega) | exact low32_and _ _ | exact low32_or _ _ | exact low32_xor _ _ | (rw [Int.mul_comm, u32_mul1, Int.mul_comm]; done) | rfl | (have := eq32 (u 1) (u 2); omega)))
  · intros
    have h : u 0 = 71 := by omega
    have e1 : selF valL32 (.lit 0) 71 = tr (no (bi .eq a32 b32)) := rfl
    have e2 : selF errL32 (.lit 200) 71 = .lit 0 := rfl
    simp only [h, e1, e2, den_tr_lt, den_tr_le, den_tr_eq, den_tr_ne]
    clear e1 e2
    simp_all [bi, no, Sx.Door.u64, Sx.Door.i64, Sx.Door.u32, Sx.Door.i32, un, v, k32, a32, b32, p32, q32, and32, div32, E.den, Bi.den, Un.den, b2i, i64_bits, u64_bits, rot32_or, low32_and, low32_or, low32_xor, u32_add, u32_sub, u32_mul, u32_i64, u32_mul1, u32_low, u32_div, u32_shr]
    all_goals (try (first | omega | exact fn3_mod (by omega) | exact low32_and _ _ | exact low32_or _ _ | exact low32_xor _ _ | (rw [Int.mul_comm, u32_mul1, Int.mul_comm]; done) | rfl | (have := eq32 (u 1) (u 2); omega)))
  · intros
    rcases (show u 0 = 109 ∨ u 0 = 110 ∨ u 0 = 111 ∨ u 0 = 112 by omega) with h | h | h | h
    · have e1 : selF valL32 (.lit 0) 109 = .ite (bi .eq b32 (.lit 0)) (.lit 0) (.ite and32 (.lit 0) (u32 (bi .tdiv p32 q32))) := rfl
      have e2 : selF errL32 (.lit 200) 109 = div32 109 := rfl
      simp only [h, e1, e2, den_tr_lt, den_tr_le, den_tr_eq, den_tr_ne]
      clear e1 e2
      simp_all [bi, no, Sx.Door.u64, Sx.Door.i64, Sx.Door.u32, Sx.Door.i32, un, v, k32, a32, b32, p32, q32, and32, div32, E.den, Bi.den, Un.den, b2i, i64_bits, u64_bits, rot32_or, low32_and, low32_or, low32_xor, u32_add, u32_sub, u32_mul, u32_i64, u32_mul1, u32_low, u32_div, u32_shr]
      all_goals (try (first | omega | exact fn3_mod (by omega) | exact low32_and _ _ | exact low32_or _ _ | exact low32_xor _ _ | (rw [Int.mul_comm, u32_mul1, Int.mul_comm]; done) | rfl | (have := eq32 (u 1) (u 2); omega)))
    · have e1 : selF valL32 (.lit 0) 110 = .ite (bi .eq b32 (.lit 0)) (.lit 0) (bi .ediv a32 b32) := rfl
      have e2 : selF errL32 (.lit 200) 110 = div32 110 := rfl
      simp only [h, e1, e2, den_tr_lt, den_tr_le, den_tr_eq, den_tr_ne]
      clear e1 e2
      simp_all [bi, no, Sx.Door.u64, Sx.Door.i64, Sx.Door.u32, Sx.Door.i32, un, v, k32, a32, b32, p32, q32, and32, div32, E.den, Bi.den, Un.den, b2i, i64_bits, u64_bits, rot32_or, low32_and, low32_or, low32_xor, u32_add, u32_sub, u32_mul, u32_i64, u32_mul1, u32_low, u32_div, u32_shr]
      all_goals (try (first | omega | exact fn3_mod (by omega) | exact low32_and _ _ | exact low32_or _ _ | exact low32_xor _ _ | (rw [Int.mul_comm, u32_mul1, Int.mul_comm]; done) | rfl | (have := eq32 (u 1) (u 2); omega)))
    · have e1 : selF valL32 (.lit 0) 111 = .ite (bi .eq b32 (.lit 0)) (.lit 0) (u32 (bi .tmod p32 q32)) := rfl
      have e2 : selF errL32 (.lit 200) 111 = div32 111 := rfl
      simp only [h, e1, e2, den_tr_lt, den_tr_le, den_tr_eq, den_tr_ne]
      clear e1 e2
      simp_all [bi, no, Sx.Door.u64, Sx.Door.i64, Sx.Door.u32, Sx.Door.i32, un, v, k32, a32, b32, p32, q32, and32, div32, E.den, Bi.den, Un.den, b2i, i64_bits, u64_bits, rot32_or, low32_and, low32_or, low32_xor, u32_add, u32_sub, u32_mul, u32_i64, u32_mul1, u32_low, u32_div, u32_shr]
      all_goals (try (first | omega | exact fn3_mod (by omega) | exact low32_and _ _ | exact low32_or _ _ | exact low32_xor _ _ | (rw [Int.mul_comm, u32_mul1, Int.mul_comm]; done) | rfl | (have := eq32 (u 1) (u 2); omega)))
    · have e1 : selF valL32 (.lit 0) 112 = .ite (bi .eq b32 (.lit 0)) (.lit 0) (bi .emod a32 b32) := rfl
      have e2 : selF errL32 (.lit 200) 112 = div32 112 := rfl
      simp only [h, e1, e2, den_tr_lt, den_tr_le, den_tr_eq, den_tr_ne]
      clear e1 e2
      simp_all [bi, no, Sx.Door.u64, Sx.Door.i64, Sx.Door.u32, Sx.Door.i32, un, v, k32, a32, b32, p32, q32, and32, div32, E.den, Bi.den, Un.den, b2i, i64_bits, u64_bits, rot32_or, low32_and, low32_or, low32_xor, u32_add, u32_sub, u32_mul, u32_i64, u32_mul1, u32_low, u32_div, u32_shr]
      all_goals (try (first | omega | exact fn3_mod (by omega) | exact low32_and _ _ | exact low32_or _ _ | exact low32_xor _ _ | (rw [Int.mul_comm, u32_mul1, Int.mul_comm]; done) | rfl | (have := eq32 (u 1) (u 2); omega)))
  · intros
    have h : u 0 = 109 := by omega
    have e1 : selF valL32 (.lit 0) 109 = .ite (bi .eq b32 (.lit 0)) (.lit 0) (.ite and32 (.lit 0) (u32 (bi .tdiv p32 q32))) := rfl
    have e2 : selF errL32 (.lit 200) 109 = div32 109 := rfl
    simp only [h, e1, e2, den_tr_lt, den_tr_le, den_tr_eq, den_tr_ne]
    clear e1 e2
    simp_all [bi, no, Sx.Door.u64, Sx.Door.i64, Sx.Door.u32, Sx.Door.i32, un, v, k32, a32, b32, p32, q32, and32, div32, E.den, Bi.den, Un.den, b2i, i64_bits, u64_bits, rot32_or, low32_and, low32_or, low32_xor, u32_add, u32_sub, u32_mul, u32_i64, u32_mul1, u32_low, u32_div, u32_shr]
    all_goals (try (first | omega | exact fn3_mod (by omega) | exact low32_and _ _ | exact low32_or _ _ | exact low32_xor _ _ | (rw [Int.mul_comm, u32_mul1, Int.mul_comm]; done) | rfl | (have := eq32 (u 1) (u 2); omega)))
  · intros
    have h : u 0 = 109 := by omega
    have e1 : selF valL32 (.lit 0) 109 = .ite (bi .eq b32 (.lit 0)) (.lit 0) (.ite and32 (.lit 0) (u32 (bi .tdiv p32 q32))) := rfl
    have e2 : selF errL32 (.lit 200) 109 = div32 109 := rfl
    simp only [h, e1, e2, den_tr_lt, den_tr_le, den_tr_eq, den_tr_ne]
    clear e1 e2
    simp_all [bi, no, Sx.Door.u64, Sx.Door.i64, Sx.Door.u32, Sx.Door.i32, un, v, k32, a32, b32, p32, q32, and32, div32, E.den, Bi.den, Un.den, b2i, i64_bits, u64_bits, rot32_or, low32_and, low32_or, low32_xor, u32_add, u32_sub, u32_mul, u32_i64, u32_mul1, u32_low, u32_div, u32_shr]
    all_goals (try (first | omega | exact fn3_mod (by omega) | exact low32_and _ _ | exact low32_or _ _ | exact low32_xor _ _ | (rw [Int.mul_comm, u32_mul1, Int.mul_comm]; done) | rfl | (have := eq32 (u 1) (u 2); omega)))
  · intros
    have h : u 0 = 110 := by omega
    have e1 : selF valL32 (.lit 0) 110 = .ite (bi .eq b32 (.lit 0)) (.lit 0) (bi .ediv a32 b32) := rfl
    have e2 : selF errL32 (.lit 200) 110 = div32 110 := rfl
    simp only [h, e1, e2, den_tr_lt, den_tr_le, den_tr_eq, den_tr_ne]
    clear e1 e2
    simp_all [bi, no, Sx.Door.u64, Sx.Door.i64, Sx.Door.u32, Sx.Door.i32, un, v, k32, a32, b32, p32, q32, and32, div32, E.den, Bi.den, Un.den, b2i, i64_bits, u64_bits, rot32_or, low32_and, low32_or, low32_xor, u32_add, u32_sub, u32_mul, u32_i64, u32_mul1, u32_low, u32_div, u32_shr]
    all_goals (try (first | omega | exact fn3_mod (by omega) | exact low32_and _ _ | exact low32_or _ _ | exact low32_xor _ _ | (rw [Int.mul_comm, u32_mul1, Int.mul_comm]; done) | rfl | (have := eq32 (u 1) (u 2); omega)))
  · intros
    have h : u 0 = 111 := by omega
    have e1 : selF valL32 (.lit 0) 111 = .ite (bi .eq b32 (.lit 0)) (.lit 0) (u32 (bi .tmod p32 q32)) := rfl
    have e2 : selF errL32 (.lit 200) 111 = div32 111 := rfl
    simp only [h, e1, e2, den_tr_lt, den_tr_le, den_tr_eq, den_tr_ne]
    clear e1 e2
    simp_all [bi, no, Sx.Door.u64, Sx.Door.i64, Sx.Door.u32, Sx.Door.i32, un, v, k32, a32, b32, p32, q32, and32, div32, E.den, Bi.den, Un.den, b2i, i64_bits, u64_bits, rot32_or, low32_and, low32_or, low32_xor, u32_add, u32_sub, u32_mul, u32_i64, u32_mul1, u32_low, u32_div, u32_shr]
    all_goals (try (first | omega | exact fn3_mod (by omega) | exact low32_and _ _ | exact low32_or _ _ | exact low32_xor _ _ | (rw [Int.mul_comm, u32_mul1, Int.mul_comm]; done) | rfl | (have := eq32 (u 1) (u 2); omega)))
  · intros
    have h : u 0 = 111 := by omega
    have e1 : selF valL32 (.lit 0) 111 = .ite (bi .eq b32 (.lit 0)) (.lit 0) (u32 (bi .tmod p32 q32)) := rfl
    have e2 : selF errL32 (.lit 200) 111 = div32 111 := rfl
    simp only [h, e1, e2, den_tr_lt, den_tr_le, den_tr_eq, den_tr_ne]
    clear e1 e2
    simp_all [bi, no, Sx.Door.u64, Sx.Door.i64, Sx.Door.u32, Sx.Door.i32, un, v, k32, a32, b32, p32, q32, and32, div32, E.den, Bi.den, Un.den, b2i, i64_bits, u64_bits, rot32_or, low32_and, low32_or, low32_xor, u32_add, u32_sub, u32_mul, u32_i64, u32_mul1, u32_low, u32_div, u32_shr]
    all_goals (try (first | omega | exact fn3_mod (by omega) | exact low32_and _ _ | exact low32_or _ _ | exact low32_xor _ _ | (rw [Int.mul_comm, u32_mul1, Int.mul_comm]; done) | rfl | (have := eq32 (u 1) (u 2); omega)))
  · intros
    have h : u 0 = 112 := by omega
    have e1 : selF valL32 (.lit 0) 112 = .ite (bi .eq b32 (.lit 0)) (.lit 0) (bi .emod a32 b32) := rfl
    have e2 : selF errL32 (.lit 200) 112 = div32 112 := rfl
    simp only [h, e1, e2, den_tr_lt, den_tr_le, den_tr_eq, den_tr_ne]
    clear e1 e2
    simp_all [bi, no, Sx.Door.u64, Sx.Door.i64, Sx.Door.u32, Sx.Door.i32, un, v, k32, a32, b32, p32, q32, and32, div32, E.den, Bi.den, Un.den, b2i, i64_bits, u64_bits, rot32_or, low32_and, low32_or, low32_xor, u32_add, u32_sub, u32_mul, u32_i64, u32_mul1, u32_low, u32_div, u32_shr]
    all_goals (try (first | omega | exact fn3_mod (by omega) | exact low32_and _ _ | exact low32_or _ _ | exact low32_xor _ _ | (rw [Int.mul_comm, u32_mul1, Int.mul_comm]; done) | rfl | (have := eq32 (u 1) (u 2); omega)))
  · intros
    have h : u 0 = 109 := by omega
    have e1 : selF valL32 (.lit 0) 109 = .ite (bi .eq b32 (.lit 0)) (.lit 0) (.ite and32 (.lit 0) (u32 (bi .tdiv p32 q32))) := rfl
    have e2 : selF errL32 (.lit 200) 109 = div32 109 := rfl
    simp only [h, e1, e2, den_tr_lt, den_tr_le, den_tr_eq, den_tr_ne]
    clear e1 e2
    simp_all [bi, no, Sx.Door.u64, Sx.Door.i64, Sx.Door.u32, Sx.Door.i32, un, v, k32, a32, b32, p32, q32, and32, div32, E.den, Bi.den, Un.den, b2i, i64_bits, u64_bits, rot32_or, low32_and, low32_or, low32_xor, u32_add, u32_sub, u32_mul, u32_i64, u32_mul1, u32_low, u32_div, u32_shr]
    all_goals (try (first | omega | exact fn3_mod (by omega) | exact low32_and _ _ | exact low32_or _ _ | exact low32_xor _ _ | (rw [Int.mul_comm, u32_mul1, Int.mul_comm]; done) | rfl | (have := eq32 (u 1) (u 2); omega)))
  · intros
    have h : u 0 = 110 := by omega
    have e1 : selF valL32 (.lit 0) 110 = .ite (bi .eq b32 (.lit 0)) (.lit 0) (bi .ediv a32 b32) := rfl
    have e2 : selF errL32 (.lit 200) 110 = div32 110 := rfl
    simp only [h, e1, e2, den_tr_lt, den_tr_le, den_tr_eq, den_tr_ne]
    clear e1 e2
    simp_all [bi, no, Sx.Door.u64, Sx.Door.i64, Sx.Door.u32, Sx.Door.i32, un, v, k32, a32, b32, p32, q32, and32, div32, E.den, Bi.den, Un.den, b2i, i64_bits, u64_bits, rot32_or, low32_and, low32_or, low32_xor, u32_add, u32_sub, u32_mul, u32_i64, u32_mul1, u32_low, u32_div, u32_shr]
    all_goals (try (first | omega | exact fn3_mod (by omega) | exact low32_and _ _ | exact low32_or _ _ | exact low32_xor _ _ | (rw [Int.mul_comm, u32_mul1, Int.mul_comm]; done) | rfl | (have := eq32 (u 1) (u 2); omega)))
  · intros
    have h : u 0 = 111 := by omega
    have e1 : selF valL32 (.lit 0) 111 = .ite (bi .eq b32 (.lit 0)) (.lit 0) (u32 (bi .tmod p32 q32)) := rfl
    have e2 : selF errL32 (.lit 200) 111 = div32 111 := rfl
    simp only [h, e1, e2, den_tr_lt, den_tr_le, den_tr_eq, den_tr_ne]
    clear e1 e2
    simp_all [bi, no, Sx.Door.u64, Sx.Door.i64, Sx.Door.u32, Sx.Door.i32, un, v, k32, a32, b32, p32, q32, and32, div32, E.den, Bi.den, Un.den, b2i, i64_bits, u64_bits, rot32_or, low32_and, low32_or, low32_xor, u32_add, u32_sub, u32_mul, u32_i64, u32_mul1, u32_low, u32_div, u32_shr]
    all_goals (try (first | omega | exact fn3_mod (by omega) | exact low32_and _ _ | exact low32_or _ _ | exact low32_xor _ _ | (rw [Int.mul_comm, u32_mul1, Int.mul_comm]; done) | rfl | (have := eq32 (u 1) (u 2); omega)))
  · intros
    have h : u 0 = 112 := by omega
    have e1 : selF valL32 (.lit 0) 112 = .ite (bi .eq b32 (.lit 0)) (.lit 0) (bi .emod a32 b32) := rfl
    have e2 : selF errL32 (.lit 200) 112 = div32 112 := rfl
    simp only [h, e1, e2, den_tr_lt, den_tr_le, den_tr_eq, den_tr_ne]
    clear e1 e2
    simp_all [bi, no, Sx.Door.u64, Sx.Door.i64, Sx.Door.u32, Sx.Door.i32, un, v, k32, a32, b32, p32, q32, and32, div32, E.den, Bi.den, Un.den, b2i, i64_bits, u64_bits, rot32_or, low32_and, low32_or, low32_xor, u32_add, u32_sub, u32_mul, u32_i64, u32_mul1, u32_low, u32_div, u32_shr]
    all_goals (try (first | omega | exact fn3_mod (by omega) | exact low32_and _ _ | exact low32_or _ _ | exact low32_xor _ _ | (rw [Int.mul_comm, u32_mul1, Int.mul_comm]; done) | rfl | (have := eq32 (u 1) (u 2); omega)))
  · intros
    have h : u 0 = 113 := by omega
    have e1 : selF valL32 (.lit 0) 113 = u32 (bi (.bits .and .i64) (v 1) (v 2)) := rfl
    have e2 : selF errL32 (.lit 200) 113 = .lit 0 := rfl
    simp only [h, e1, e2, den_tr_lt, den_tr_le, den_tr_eq, den_tr_ne]
    clear e1 e2
    simp_all [bi, no, Sx.Door.u64, Sx.Door.i64, Sx.Door.u32, Sx.Door.i32, un, v, k32, a32, b32, p32, q32, and32, div32, E.den, Bi.den, Un.den, b2i, i64_bits, u64_bits, rot32_or, low32_and, low32_or, low32_xor, u32_add, u32_sub, u32_mul, u32_i64, u32_mul1, u32_low, u32_div, u32_shr]
    all_goals (try (first | omega | exact fn3_mod (by omega) | exact low32_and _ _ | exact low32_or _ _ | exact low32_xor _ _ | (rw [Int.mul_comm, u32_mul1, Int.mul_comm]; done) | rfl | (have := eq32 (u 1) (u 2); omega)))
  · intros
    have h : u 0 = 114 := by omega
    have e1 : selF valL32 (.lit 0) 114 = u32 (bi (.bits .or .i64) (v 1) (v 2)) := rfl
    have e2 : selF errL32 (.lit 200) 114 = .lit 0 := rfl
    simp only [h, e1, e2, den_tr_lt, den_tr_le, den_tr_eq, den_tr_ne]
    clear e1 e2
    simp_all [bi, no, Sx.Door.u64, Sx.Door.i64, Sx.Door.u32, Sx.Door.i32, un, v, k32, a32, b32, p32, q32, and32, div32, E.den, Bi.den, Un.den, b2i, i64_bits, u64_bits, rot32_or, low32_and, low32_or, low32_xor, u32_add, u32_sub, u32_mul, u32_i64, u32_mul1, u32_low, u32_div, u32_shr]
    all_goals (try (first | omega | exact fn3_mod (by omega) | exact low32_and _ _ | exact low32_or _ _ | exact low32_xor _ _ | (rw [Int.mul_comm, u32_mul1, Int.mul_comm]; done) | rfl | (have := eq32 (u 1) (u 2); omega)))
  · intros
    have h : u 0 = 115 := by omega
    have e1 : selF valL32 (.lit 0) 115 = u32 (bi (.bits .xor .i64) (v 1) (v 2)) := rfl
    have e2 : selF errL32 (.lit 200) 115 = .lit 0 := rfl
    simp only [h, e1, e2, den_tr_lt, den_tr_le, den_tr_eq, den_tr_ne]
    clear e1 e2
    simp_all [bi, no, Sx.Door.u64, Sx.Door.i64, Sx.Door.u32, Sx.Door.i32, un, v, k32, a32, b32, p32, q32, and32, div32, E.den, Bi.den, Un.den, b2i, i64_bits, u64_bits, rot32_or, low32_and, low32_or, low32_xor, u32_add, u32_sub, u32_mul, u32_i64, u32_mul1, u32_low, u32_div, u32_shr]
    all_goals (try (first | omega | exact fn3_mod (by omega) | exact low32_and _ _ | exact low32_or _ _ | exact low32_xor _ _ | (rw [Int.mul_comm, u32_mul1, Int.mul_comm]; done) | rfl | (have := eq32 (u 1) (u 2); omega)))
  · intros
    have h : u 0 = 116 := by omega
    have e1 : selF valL32 (.lit 0) 116 = u32 (bi (.shl .i64) (v 1) k32) := rfl
    have e2 : selF errL32 (.lit 200) 116 = .lit 0 := rfl
    simp only [h, e1, e2, den_tr_lt, den_tr_le, den_tr_eq, den_tr_ne]
    clear e1 e2
    simp_all [bi, no, Sx.Door.u64, Sx.Door.i64, Sx.Door.u32, Sx.Door.i32, un, v, k32, a32, b32, p32, q32, and32, div32, E.den, Bi.den, Un.den, b2i, i64_bits, u64_bits, rot32_or, low32_and, low32_or, low32_xor, u32_add, u32_sub, u32_mul, u32_i64, u32_mul1, u32_low, u32_div, u32_shr]
    all_goals (try (first | omega | exact fn3_mod (by omega) | exact low32_and _ _ | exact low32_or _ _ | exact low32_xor _ _ | (rw [Int.mul_comm, u32_mul1, Int.mul_comm]; done) | rfl | (have := eq32 (u 1) (u 2); omega)))
  · intros
    have h : u 0 = 117 := by omega
    have e1 : selF valL32 (.lit 0) 117 = u32 (bi (.shr .i64) p32 k32) := rfl
    have e2 : selF errL32 (.lit 200) 117 = .lit 0 := rfl
    simp only [h, e1, e2, den_tr_lt, den_tr_le, den_tr_eq, den_tr_ne]
    clear e1 e2
    simp_all [bi, no, Sx.Door.u64, Sx.Door.i64, Sx.Door.u32, Sx.Door.i32, un, v, k32, a32, b32, p32, q32, and32, div32, E.den, Bi.den, Un.den, b2i, i64_bits, u64_bits, rot32_or, low32_and, low32_or, low32_xor, u32_add, u32_sub, u32_mul, u32_i64, u32_mul1, u32_low, u32_div, u32_shr]
    all_goals (try (first | omega | exact fn3_mod (by omega) | exact low32_and _ _ | exact low32_or _ _ | exact low32_xor _ _ | (rw [Int.mul_comm, u32_mul1, Int.mul_comm]; done) | rfl | (have := eq32 (u 1) (u 2); omega)))
  · intros
    have h : u 0 = 118 := by omega
    have e1 : selF valL32 (.lit 0) 118 = bi (.shr .i64) a32 k32 := rfl
    have e2 : selF errL32 (.lit 200) 118 = .lit 0 := rfl
    simp only [h, e1, e2, den_tr_lt, den_tr_le, den_tr_eq, den_tr_ne]
    clear e1 e2
    simp_all [bi, no, Sx.Door.u64, Sx.Door.i64, Sx.Door.u32, Sx.Door.i32, un, v, k32, a32, b32, p32, q32, and32, div32, E.den, Bi.den, Un.den, b2i, i64_bits, u64_bits, rot32_or, low32_and, low32_or, low32_xor, u32_add, u32_sub, u32_mul, u32_i64, u32_mul1, u32_low, u32_div, u32_shr]
    all_goals (try (first | omega | exact fn3_mod (by omega) | exact low32_and _ _ | exact low32_or _ _ | exact low32_xor _ _ | (rw [Int.mul_comm, u32_mul1, Int.mul_comm]; done) | rfl | (have := eq32 (u 1) (u 2); omega)))
  · intros
    have h : u 0 = 120 := by omega
    have e1 : selF valL32 (.lit 0) 120 = .fn 3 a32 (.lit 32) (bi .sub (.lit 32) k32) := rfl
    have e2 : selF errL32 (.lit 200) 120 = .lit 0 := rfl
    simp only [h, e1, e2, den_tr_lt, den_tr_le, den_tr_eq, den_tr_ne]
    clear e1 e2
    simp_all [bi, no, Sx.Door.u64, Sx.Door.i64, Sx.Door.u32, Sx.Door.i32, un, v, k32, a32, b32, p32, q32, and32, div32, E.den, Bi.den, Un.den, b2i, i64_bits, u64_bits, rot32_or, low32_and, low32_or, low32_xor, u32_add, u32_sub, u32_mul, u32_i64, u32_mul1, u32_low, u32_div, u32_shr]
    all_goals (try (first | omega | exact fn3_mod (by omega) | exact low32_and _ _ | exact low32_or _ _ | exact low32_xor _ _ | (rw [Int.mul_comm, u32_mul1, Int.mul_comm]; done) | rfl | (have := eq32 (u 1) (u 2); omega)))
  · intros
    have h : u 0 = 119 := by omega
    have e1 : selF valL32 (.lit 0) 119 = .fn 3 a32 (.lit 32) k32 := rfl
    have e2 : selF errL32 (.lit 200) 119 = .lit 0 := rfl
    simp only [h, e1, e2, den_tr_lt, den_tr_le, den_tr_eq, den_tr_ne]
    clear e1 e2
    simp_all [bi, no, Sx.Door.u64, Sx.Door.i64, Sx.Door.u32, Sx.Door.i32, un, v, k32, a32, b32, p32, q32, and32, div32, E.den, Bi.den, Un.den, b2i, i64_bits, u64_bits, rot32_or, low32_and, low32_or, low32_xor, u32_add, u32_sub, u32_mul, u32_i64, u32_mul1, u32_low, u32_div, u32_shr]
    all_goals (try (first | omega | exact fn3_mod (by omega) | exact low32_and _ _ | exact low32_or _ _ | exact low32_xor _ _ | (rw [Int.mul_comm, u32_mul1, Int.mul_comm]; done) | rfl | (have := eq32 (u 1) (u 2); omega)))
  · intros
    rw [selF_none _ _ _ (by intro p hp; simp [keys32] at hp; omega), selF_none _ _ _ (by intro p hp; simp [keys32'] at hp; omega)]
    exact ⟨rfl, rfl⟩
  · intros
    have h : u 0 = 106 := by omega
    have e1 : selF valL32 (.lit 0) 106 = u32 (bi .add (v 1) (v 2)) := rfl
    have e2 : selF errL32 (.lit 200) 106 = .lit 0 := rfl
    simp only [h, e1, e2, den_tr_lt, den_tr_le, den_tr_eq, den_tr_ne]
    clear e1 e2
    simp_all [bi, no, Sx.Door.u64, Sx.Door.i64, Sx.Door.u32, Sx.Door.i32, un, v, k32, a32, b32, p32, q32, and32, div32, E.den, Bi.den, Un.den, b2i, i64_bits, u64_bits, rot32_or, low32_and, low32_or, low32_xor, u32_add, u32_sub, u32_mul, u32_i64, u32_mul1, u32_low, u32_div, u32_shr]
    all_goals (try (first | omega | exact fn3_mod (by omega) | exact low32_and _ _ | exact low32_or _ _ | exact low32_xor _ _ | (rw [Int.mul_comm, u32_mul1, Int.mul_comm]; done) | rfl | (have := eq32 (u 1) (u 2); omega)))
  · intros
    have h : u 0 = 107 := by omega
    have e1 : selF valL32 (.lit 0) 107 = u32 (bi .sub (v 1) (v 2)) := rfl
    have e2 : selF errL32 (.lit 200) 107 = .lit 0 := rfl
    simp only [h, e1, e2, den_tr_lt, den_tr_le, den_tr_eq, den_tr_ne]
    clear e1 e2
    simp_all [bi, no, Sx.Door.u64, Sx.Door.i64, Sx.Door.u32, Sx.Door.i32, un, v, k32, a32, b32, p32, q32, and32, div32, E.den, Bi.den, Un.den, b2i, i64_bits, u64_bits, rot32_or, low32_and, low32_or, low32_xor, u32_add, u32_sub, u32_mul, u32_i64, u32_mul1, u32_low, u32_div, u32_shr]
    all_goals (try (first | omega | exact fn3_mod (by omega) | exact low32_and _ _ | exact low32_or _ _ | exact low32_xor _ _ | (rw [Int.mul_comm, u32_mul1, Int.mul_comm]; done) | rfl | (have := eq32 (u 1) (u 2); omega)))
  · intros
    have h : u 0 = 108 := by omega
    have e1 : selF valL32 (.lit 0) 108 = u32 (bi .mul (v 1) (v 2)) := rfl
    have e2 : selF errL32 (.lit 200) 108 = .lit 0 := rfl
    simp only [h, e1, e2, den_tr_lt, den_tr_le, den_tr_eq, den_tr_ne]
    clear e1 e2
    simp_all [bi, no, Sx.Door.u64, Sx.Door.i64, Sx.Door.u32, Sx.Door.i32, un, v, k32, a32, b32, p32, q32, and32, div32, E.den, Bi.den, Un.den, b2i, i64_bits, u64_bits, rot32_or, low32_and, low32_or, low32_xor, u32_add, u32_sub, u32_mul, u32_i64, u32_mul1, u32_low, u32_div, u32_shr]
    all_goals (try (first | omega | exact fn3_mod (by omega) | exact low32_and _ _ | exact low32_or _ _ | exact low32_xor _ _ | (rw [Int.mul_comm, u32_mul1, Int.mul_comm]; done) | rfl | (have := eq32 (u 1) (u 2); omega)))
  · intros
    rw [selF_none _ _ _ (by intro p hp; simp [keys32] at hp; omega), selF_none _ _ _ (by intro p hp; simp [keys32'] at hp; omega)]
    exact ⟨rfl, rfl⟩
  · intros
    rw [selF_none _ _ _ (by intro p hp; simp [keys32] at hp; omega), selF_none _ _ _ (by intro p hp; simp [keys32'] at hp; omega)]
    exact ⟨rfl, rfl⟩

end Go.Proofs.YtdmdjhmaanhocaaDoor.PlainOp32
