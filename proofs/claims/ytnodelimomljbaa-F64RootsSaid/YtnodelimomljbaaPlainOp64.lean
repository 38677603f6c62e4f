/- The contracts of f64n, in numbers alone. No condition. -/
import Derived.Test.YtnodelimomljbaaRunOp64
namespace Go.Proofs.Ytnodelimomljbaa.PlainOp64
open Go Go.Sx Go.Sx.Flt Go.Proofs.Ytnodelimomljbaa.RunOp64

theorem unOne2 (a b : Option IntKind × E) (vs : List V) : unOne [a, b].length (.tup vs) = vs := rfl
theorem i64_wrap1 (n m : Int) : IntKind.i64.wrap (n + m) = (n + m + 9223372036854775808) % 18446744073709551616 - 9223372036854775808 := by
  simp only [IntKind.wrap, IntKind.bits, IntKind.signed]; simp; split <;> omega
theorem unV_den (ρ : Env) : unV64.den ρ = (selF unL64 (.lit 0) (ρ.v 0)).den ρ := den_sel _ _ _
theorem unE_den (ρ : Env) : unE64.den ρ = (selF ([153, 154, 155, 156, 157, 158, 159].map fun k => (k, .lit 0)) (.lit 500) (ρ.v 0)).den ρ := den_sel _ _ _
theorem binV_den (ρ : Env) : binV64.den ρ = (selF binL64 (.lit 0) (ρ.v 0)).den ρ := den_sel _ _ _
theorem binE_den (ρ : Env) : binE64.den ρ = (selF ([97, 98, 99, 100, 101, 102, 160, 161, 162, 163, 164, 165, 166].map fun k => (k, .lit 0)) (.lit 500) (ρ.v 0)).den ρ := den_sel _ _ _
set_option linter.unusedSimpArgs false
set_option linter.unusedVariables false

theorem un_plain (u : Nat → Int) (hk : KindOk u 0 unS64.ks) : Keeps ⟨u, fnF⟩ unS64.res unR := by
  have h0 : -9223372036854775808 ≤ u 0 ∧ u 0 ≤ 9223372036854775807 := of_kind hk.1
  simp only [unS64, unR, Keeps, chain, unOne2, SameL, E.prop, E.den, Bi.den, Un.den, true_and, and_true, unV_den, unE_den, i64_wrap1]
  refine ⟨?_, ?_, ?_, ?_, ?_, ?_, ?_, ?_, ?_, ?_, ?_, ?_, ?_⟩
  · intros
    have h : u 0 = 153 := by omega
    have e1 : selF unL64 (.lit 0) 153 = bi (.bits .andNot .i64) (v 1) sign64 := rfl
    have e2 : selF ([153, 154, 155, 156, 157, 158, 159].map fun k => (k, .lit 0)) (.lit 500) 153 = .lit 0 := rfl
    simp only [h, e1, e2]
    clear e1 e2
    simp_all [can64, pick64, nan64, x64, y64, o64, sign64, tr, bi, no, un, Flt.u64, Flt.i64, v, E.den, Bi.den, Un.den, b2i]
    all_goals (try (have hx := Int.not_le.2 (by assumption : (1 : Int) < fordI _ _ _); simp [hx]))
  · intros
    have h : u 0 = 154 := by omega
    have e1 : selF unL64 (.lit 0) 154 = bi (.bits .xor .i64) (v 1) sign64 := rfl
    have e2 : selF ([153, 154, 155, 156, 157, 158, 159].map fun k => (k, .lit 0)) (.lit 500) 154 = .lit 0 := rfl
    simp only [h, e1, e2]
    clear e1 e2
    simp_all [can64, pick64, nan64, x64, y64, o64, sign64, tr, bi, no, un, Flt.u64, Flt.i64, v, E.den, Bi.den, Un.den, b2i]
    all_goals (try (have hx := Int.not_le.2 (by assumption : (1 : Int) < fordI _ _ _); simp [hx]))
  · intros
    have h : u 0 = 155 := by omega
    have e1 : selF unL64 (.lit 0) 155 = can64 (un (.fwhole .up) x64) := rfl
    have e2 : selF ([153, 154, 155, 156, 157, 158, 159].map fun k => (k, .lit 0)) (.lit 500) 155 = .lit 0 := rfl
    simp only [h, e1, e2]
    clear e1 e2
    simp_all [can64, pick64, nan64, x64, y64, o64, sign64, tr, bi, no, un, Flt.u64, Flt.i64, v, E.den, Bi.den, Un.den, b2i]
    all_goals (try (have hx := Int.not_le.2 (by assumption : (1 : Int) < fordI _ _ _); simp [hx]))
  · intros
    have h : u 0 = 155 := by omega
    have e1 : selF unL64 (.lit 0) 155 = can64 (un (.fwhole .up) x64) := rfl
    have e2 : selF ([153, 154, 155, 156, 157, 158, 159].map fun k => (k, .lit 0)) (.lit 500) 155 = .lit 0 := rfl
    simp only [h, e1, e2]
    clear e1 e2
    simp_all [can64, pick64, nan64, x64, y64, o64, sign64, tr, bi, no, un, Flt.u64, Flt.i64, v, E.den, Bi.den, Un.den, b2i]
    all_goals (try (have hx := Int.not_le.2 (by assumption : (1 : Int) < fordI _ _ _); simp [hx]))
  · intros
    have h : u 0 = 156 := by omega
    have e1 : selF unL64 (.lit 0) 156 = can64 (un (.fwhole .down) x64) := rfl
    have e2 : selF ([153, 154, 155, 156, 157, 158, 159].map fun k => (k, .lit 0)) (.lit 500) 156 = .lit 0 := rfl
    simp only [h, e1, e2]
    clear e1 e2
    simp_all [can64, pick64, nan64, x64, y64, o64, sign64, tr, bi, no, un, Flt.u64, Flt.i64, v, E.den, Bi.den, Un.den, b2i]
    all_goals (try (have hx := Int.not_le.2 (by assumption : (1 : Int) < fordI _ _ _); simp [hx]))
  · intros
    have h : u 0 = 156 := by omega
    have e1 : selF unL64 (.lit 0) 156 = can64 (un (.fwhole .down) x64) := rfl
    have e2 : selF ([153, 154, 155, 156, 157, 158, 159].map fun k => (k, .lit 0)) (.lit 500) 156 = .lit 0 := rfl
    simp only [h, e1, e2]
    clear e1 e2
    simp_all [can64, pick64, nan64, x64, y64, o64, sign64, tr, bi, no, un, Flt.u64, Flt.i64, v, E.den, Bi.den, Un.den, b2i]
    all_goals (try (have hx := Int.not_le.2 (by assumption : (1 : Int) < fordI _ _ _); simp [hx]))
  · intros
    have h : u 0 = 157 := by omega
    have e1 : selF unL64 (.lit 0) 157 = can64 (un (.fwhole .zero) x64) := rfl
    have e2 : selF ([153, 154, 155, 156, 157, 158, 159].map fun k => (k, .lit 0)) (.lit 500) 157 = .lit 0 := rfl
    simp only [h, e1, e2]
    clear e1 e2
    simp_all [can64, pick64, nan64, x64, y64, o64, sign64, tr, bi, no, un, Flt.u64, Flt.i64, v, E.den, Bi.den, Un.den, b2i]
    all_goals (try (have hx := Int.not_le.2 (by assumption : (1 : Int) < fordI _ _ _); simp [hx]))
  · intros
    have h : u 0 = 157 := by omega
    have e1 : selF unL64 (.lit 0) 157 = can64 (un (.fwhole .zero) x64) := rfl
    have e2 : selF ([153, 154, 155, 156, 157, 158, 159].map fun k => (k, .lit 0)) (.lit 500) 157 = .lit 0 := rfl
    simp only [h, e1, e2]
    clear e1 e2
    simp_all [can64, pick64, nan64, x64, y64, o64, sign64, tr, bi, no, un, Flt.u64, Flt.i64, v, E.den, Bi.den, Un.den, b2i]
    all_goals (try (have hx := Int.not_le.2 (by assumption : (1 : Int) < fordI _ _ _); simp [hx]))
  · intros
    have h : u 0 = 158 := by omega
    have e1 : selF unL64 (.lit 0) 158 = can64 (un (.fwhole .even) x64) := rfl
    have e2 : selF ([153, 154, 155, 156, 157, 158, 159].map fun k => (k, .lit 0)) (.lit 500) 158 = .lit 0 := rfl
    simp only [h, e1, e2]
    clear e1 e2
    simp_all [can64, pick64, nan64, x64, y64, o64, sign64, tr, bi, no, un, Flt.u64, Flt.i64, v, E.den, Bi.den, Un.den, b2i]
    all_goals (try (have hx := Int.not_le.2 (by assumption : (1 : Int) < fordI _ _ _); simp [hx]))
  · intros
    have h : u 0 = 158 := by omega
    have e1 : selF unL64 (.lit 0) 158 = can64 (un (.fwhole .even) x64) := rfl
    have e2 : selF ([153, 154, 155, 156, 157, 158, 159].map fun k => (k, .lit 0)) (.lit 500) 158 = .lit 0 := rfl
    simp only [h, e1, e2]
    clear e1 e2
    simp_all [can64, pick64, nan64, x64, y64, o64, sign64, tr, bi, no, un, Flt.u64, Flt.i64, v, E.den, Bi.den, Un.den, b2i]
    all_goals (try (have hx := Int.not_le.2 (by assumption : (1 : Int) < fordI _ _ _); simp [hx]))
  · intros
    have h : u 0 = 159 := by omega
    have e1 : selF unL64 (.lit 0) 159 = can64 (un .fsqrt x64) := rfl
    have e2 : selF ([153, 154, 155, 156, 157, 158, 159].map fun k => (k, .lit 0)) (.lit 500) 159 = .lit 0 := rfl
    simp only [h, e1, e2]
    clear e1 e2
    simp_all [can64, pick64, nan64, x64, y64, o64, sign64, tr, bi, no, un, Flt.u64, Flt.i64, v, E.den, Bi.den, Un.den, b2i]
    all_goals (try (have hx := Int.not_le.2 (by assumption : (1 : Int) < fordI _ _ _); simp [hx]))
  · intros
    have h : u 0 = 159 := by omega
    have e1 : selF unL64 (.lit 0) 159 = can64 (un .fsqrt x64) := rfl
    have e2 : selF ([153, 154, 155, 156, 157, 158, 159].map fun k => (k, .lit 0)) (.lit 500) 159 = .lit 0 := rfl
    simp only [h, e1, e2]
    clear e1 e2
    simp_all [can64, pick64, nan64, x64, y64, o64, sign64, tr, bi, no, un, Flt.u64, Flt.i64, v, E.den, Bi.den, Un.den, b2i]
    all_goals (try (have hx := Int.not_le.2 (by assumption : (1 : Int) < fordI _ _ _); simp [hx]))
  · intros
    rw [selF_none _ _ _ (by intro p hp; simp [unL64] at hp; omega), selF_none _ _ _ (by intro p hp; simp at hp; omega)]
    exact ⟨rfl, rfl⟩

theorem bin_plain (u : Nat → Int) (hk : KindOk u 0 binS64.ks) : Keeps ⟨u, fnF⟩ binS64.res binR := by
  have h0 : -9223372036854775808 ≤ u 0 ∧ u 0 ≤ 9223372036854775807 := of_kind hk.1
  simp only [binS64, binR, Keeps, chain, unOne2, SameL, E.prop, E.den, Bi.den, Un.den, true_and, and_true, binV_den, binE_den, i64_wrap1]
  refine ⟨?_, ?_, ?_, ?_, ?_, ?_, ?_, ?_, ?_, ?_, ?_, ?_, ?_, ?_, ?_, ?_, ?_, ?_, ?_, ?_, ?_, ?_, ?_, ?_, ?_, ?_, ?_, ?_⟩
  · intros
    have h : u 0 = 97 := by omega
    have e1 : selF binL64 (.lit 0) 97 = tr (bi .eq o64 (.lit 0)) := rfl
    have e2 : selF ([97, 98, 99, 100, 101, 102, 160, 161, 162, 163, 164, 165, 166].map fun k => (k, .lit 0)) (.lit 500) 97 = .lit 0 := rfl
    simp only [h, e1, e2]
    clear e1 e2
    simp_all [can64, pick64, nan64, x64, y64, o64, sign64, tr, bi, no, un, Flt.u64, Flt.i64, v, E.den, Bi.den, Un.den, b2i]
    all_goals (try (have hx := Int.not_le.2 (by assumption : (1 : Int) < fordI _ _ _); simp [hx]))
  · intros
    have h : u 0 = 97 := by omega
    have e1 : selF binL64 (.lit 0) 97 = tr (bi .eq o64 (.lit 0)) := rfl
    have e2 : selF ([97, 98, 99, 100, 101, 102, 160, 161, 162, 163, 164, 165, 166].map fun k => (k, .lit 0)) (.lit 500) 97 = .lit 0 := rfl
    simp only [h, e1, e2]
    clear e1 e2
    simp_all [can64, pick64, nan64, x64, y64, o64, sign64, tr, bi, no, un, Flt.u64, Flt.i64, v, E.den, Bi.den, Un.den, b2i]
    all_goals (try (have hx := Int.not_le.2 (by assumption : (1 : Int) < fordI _ _ _); simp [hx]))
  · intros
    have h : u 0 = 98 := by omega
    have e1 : selF binL64 (.lit 0) 98 = tr (no (bi .eq o64 (.lit 0))) := rfl
    have e2 : selF ([97, 98, 99, 100, 101, 102, 160, 161, 162, 163, 164, 165, 166].map fun k => (k, .lit 0)) (.lit 500) 98 = .lit 0 := rfl
    simp only [h, e1, e2]
    clear e1 e2
    simp_all [can64, pick64, nan64, x64, y64, o64, sign64, tr, bi, no, un, Flt.u64, Flt.i64, v, E.den, Bi.den, Un.den, b2i]
    all_goals (try (have hx := Int.not_le.2 (by assumption : (1 : Int) < fordI _ _ _); simp [hx]))
  · intros
    have h : u 0 = 98 := by omega
    have e1 : selF binL64 (.lit 0) 98 = tr (no (bi .eq o64 (.lit 0))) := rfl
    have e2 : selF ([97, 98, 99, 100, 101, 102, 160, 161, 162, 163, 164, 165, 166].map fun k => (k, .lit 0)) (.lit 500) 98 = .lit 0 := rfl
    simp only [h, e1, e2]
    clear e1 e2
    simp_all [can64, pick64, nan64, x64, y64, o64, sign64, tr, bi, no, un, Flt.u64, Flt.i64, v, E.den, Bi.den, Un.den, b2i]
    all_goals (try (have hx := Int.not_le.2 (by assumption : (1 : Int) < fordI _ _ _); simp [hx]))
  · intros
    have h : u 0 = 99 := by omega
    have e1 : selF binL64 (.lit 0) 99 = tr (bi .eq o64 (.lit 1)) := rfl
    have e2 : selF ([97, 98, 99, 100, 101, 102, 160, 161, 162, 163, 164, 165, 166].map fun k => (k, .lit 0)) (.lit 500) 99 = .lit 0 := rfl
    simp only [h, e1, e2]
    clear e1 e2
    simp_all [can64, pick64, nan64, x64, y64, o64, sign64, tr, bi, no, un, Flt.u64, Flt.i64, v, E.den, Bi.den, Un.den, b2i]
    all_goals (try (have hx := Int.not_le.2 (by assumption : (1 : Int) < fordI _ _ _); simp [hx]))
  · intros
    have h : u 0 = 99 := by omega
    have e1 : selF binL64 (.lit 0) 99 = tr (bi .eq o64 (.lit 1)) := rfl
    have e2 : selF ([97, 98, 99, 100, 101, 102, 160, 161, 162, 163, 164, 165, 166].map fun k => (k, .lit 0)) (.lit 500) 99 = .lit 0 := rfl
    simp only [h, e1, e2]
    clear e1 e2
    simp_all [can64, pick64, nan64, x64, y64, o64, sign64, tr, bi, no, un, Flt.u64, Flt.i64, v, E.den, Bi.den, Un.den, b2i]
    all_goals (try (have hx := Int.not_le.2 (by assumption : (1 : Int) < fordI _ _ _); simp [hx]))
  · intros
    have h : u 0 = 100 := by omega
    have e1 : selF binL64 (.lit 0) 100 = tr (bi .eq o64 (.lit 2)) := rfl
    have e2 : selF ([97, 98, 99, 100, 101, 102, 160, 161, 162, 163, 164, 165, 166].map fun k => (k, .lit 0)) (.lit 500) 100 = .lit 0 := rfl
    simp only [h, e1, e2]
    clear e1 e2
    simp_all [can64, pick64, nan64, x64, y64, o64, sign64, tr, bi, no, un, Flt.u64, Flt.i64, v, E.den, Bi.den, Un.den, b2i]
    all_goals (try (have hx := Int.not_le.2 (by assumption : (1 : Int) < fordI _ _ _); simp [hx]))
  · intros
    have h : u 0 = 100 := by omega
    have e1 : selF binL64 (.lit 0) 100 = tr (bi .eq o64 (.lit 2)) := rfl
    have e2 : selF ([97, 98, 99, 100, 101, 102, 160, 161, 162, 163, 164, 165, 166].map fun k => (k, .lit 0)) (.lit 500) 100 = .lit 0 := rfl
    simp only [h, e1, e2]
    clear e1 e2
    simp_all [can64, pick64, nan64, x64, y64, o64, sign64, tr, bi, no, un, Flt.u64, Flt.i64, v, E.den, Bi.den, Un.den, b2i]
    all_goals (try (have hx := Int.not_le.2 (by assumption : (1 : Int) < fordI _ _ _); simp [hx]))
  · intros
    have h : u 0 = 101 := by omega
    have e1 : selF binL64 (.lit 0) 101 = tr (bi .le o64 (.lit 1)) := rfl
    have e2 : selF ([97, 98, 99, 100, 101, 102, 160, 161, 162, 163, 164, 165, 166].map fun k => (k, .lit 0)) (.lit 500) 101 = .lit 0 := rfl
    simp only [h, e1, e2]
    clear e1 e2
    simp_all [can64, pick64, nan64, x64, y64, o64, sign64, tr, bi, no, un, Flt.u64, Flt.i64, v, E.den, Bi.den, Un.den, b2i]
    all_goals (try (have hx := Int.not_le.2 (by assumption : (1 : Int) < fordI _ _ _); simp [hx]))
  · intros
    have h : u 0 = 101 := by omega
    have e1 : selF binL64 (.lit 0) 101 = tr (bi .le o64 (.lit 1)) := rfl
    have e2 : selF ([97, 98, 99, 100, 101, 102, 160, 161, 162, 163, 164, 165, 166].map fun k => (k, .lit 0)) (.lit 500) 101 = .lit 0 := rfl
    simp only [h, e1, e2]
    clear e1 e2
    simp_all [can64, pick64, nan64, x64, y64, o64, sign64, tr, bi, no, un, Flt.u64, Flt.i64, v, E.den, Bi.den, Un.den, b2i]
    all_goals (try (have hx := Int.not_le.2 (by assumption : (1 : Int) < fordI _ _ _); simp [hx]))
  · intros
    have h : u 0 = 102 := by omega
    have e1 : selF binL64 (.lit 0) 102 = tr (bi .or (bi .eq o64 (.lit 2)) (bi .eq o64 (.lit 0))) := rfl
    have e2 : selF ([97, 98, 99, 100, 101, 102, 160, 161, 162, 163, 164, 165, 166].map fun k => (k, .lit 0)) (.lit 500) 102 = .lit 0 := rfl
    simp only [h, e1, e2]
    clear e1 e2
    simp_all [can64, pick64, nan64, x64, y64, o64, sign64, tr, bi, no, un, Flt.u64, Flt.i64, v, E.den, Bi.den, Un.den, b2i]
    all_goals (try (have hx := Int.not_le.2 (by assumption : (1 : Int) < fordI _ _ _); simp [hx]))
  · intros
    have h : u 0 = 102 := by omega
    have e1 : selF binL64 (.lit 0) 102 = tr (bi .or (bi .eq o64 (.lit 2)) (bi .eq o64 (.lit 0))) := rfl
    have e2 : selF ([97, 98, 99, 100, 101, 102, 160, 161, 162, 163, 164, 165, 166].map fun k => (k, .lit 0)) (.lit 500) 102 = .lit 0 := rfl
    simp only [h, e1, e2]
    clear e1 e2
    simp_all [can64, pick64, nan64, x64, y64, o64, sign64, tr, bi, no, un, Flt.u64, Flt.i64, v, E.den, Bi.den, Un.den, b2i]
    all_goals (try (have hx := Int.not_le.2 (by assumption : (1 : Int) < fordI _ _ _); simp [hx]))
  · intros
    have h : u 0 = 160 := by omega
    have e1 : selF binL64 (.lit 0) 160 = can64 (bi (.far .add .f64) x64 y64) := rfl
    have e2 : selF ([97, 98, 99, 100, 101, 102, 160, 161, 162, 163, 164, 165, 166].map fun k => (k, .lit 0)) (.lit 500) 160 = .lit 0 := rfl
    simp only [h, e1, e2]
    clear e1 e2
    simp_all [can64, pick64, nan64, x64, y64, o64, sign64, tr, bi, no, un, Flt.u64, Flt.i64, v, E.den, Bi.den, Un.den, b2i]
    all_goals (try (have hx := Int.not_le.2 (by assumption : (1 : Int) < fordI _ _ _); simp [hx]))
  · intros
    have h : u 0 = 160 := by omega
    have e1 : selF binL64 (.lit 0) 160 = can64 (bi (.far .add .f64) x64 y64) := rfl
    have e2 : selF ([97, 98, 99, 100, 101, 102, 160, 161, 162, 163, 164, 165, 166].map fun k => (k, .lit 0)) (.lit 500) 160 = .lit 0 := rfl
    simp only [h, e1, e2]
    clear e1 e2
    simp_all [can64, pick64, nan64, x64, y64, o64, sign64, tr, bi, no, un, Flt.u64, Flt.i64, v, E.den, Bi.den, Un.den, b2i]
    all_goals (try (have hx := Int.not_le.2 (by assumption : (1 : Int) < fordI _ _ _); simp [hx]))
  · intros
    have h : u 0 = 161 := by omega
    have e1 : selF binL64 (.lit 0) 161 = can64 (bi (.far .sub .f64) x64 y64) := rfl
    have e2 : selF ([97, 98, 99, 100, 101, 102, 160, 161, 162, 163, 164, 165, 166].map fun k => (k, .lit 0)) (.lit 500) 161 = .lit 0 := rfl
    simp only [h, e1, e2]
    clear e1 e2
    simp_all [can64, pick64, nan64, x64, y64, o64, sign64, tr, bi, no, un, Flt.u64, Flt.i64, v, E.den, Bi.den, Un.den, b2i]
    all_goals (try (have hx := Int.not_le.2 (by assumption : (1 : Int) < fordI _ _ _); simp [hx]))
  · intros
    have h : u 0 = 161 := by omega
    have e1 : selF binL64 (.lit 0) 161 = can64 (bi (.far .sub .f64) x64 y64) := rfl
    have e2 : selF ([97, 98, 99, 100, 101, 102, 160, 161, 162, 163, 164, 165, 166].map fun k => (k, .lit 0)) (.lit 500) 161 = .lit 0 := rfl
    simp only [h, e1, e2]
    clear e1 e2
    simp_all [can64, pick64, nan64, x64, y64, o64, sign64, tr, bi, no, un, Flt.u64, Flt.i64, v, E.den, Bi.den, Un.den, b2i]
    all_goals (try (have hx := Int.not_le.2 (by assumption : (1 : Int) < fordI _ _ _); simp [hx]))
  · intros
    have h : u 0 = 162 := by omega
    have e1 : selF binL64 (.lit 0) 162 = can64 (bi (.far .mul .f64) x64 y64) := rfl
    have e2 : selF ([97, 98, 99, 100, 101, 102, 160, 161, 162, 163, 164, 165, 166].map fun k => (k, .lit 0)) (.lit 500) 162 = .lit 0 := rfl
    simp only [h, e1, e2]
    clear e1 e2
    simp_all [can64, pick64, nan64, x64, y64, o64, sign64, tr, bi, no, un, Flt.u64, Flt.i64, v, E.den, Bi.den, Un.den, b2i]
    all_goals (try (have hx := Int.not_le.2 (by assumption : (1 : Int) < fordI _ _ _); simp [hx]))
  · intros
    have h : u 0 = 162 := by omega
    have e1 : selF binL64 (.lit 0) 162 = can64 (bi (.far .mul .f64) x64 y64) := rfl
    have e2 : selF ([97, 98, 99, 100, 101, 102, 160, 161, 162, 163, 164, 165, 166].map fun k => (k, .lit 0)) (.lit 500) 162 = .lit 0 := rfl
    simp only [h, e1, e2]
    clear e1 e2
    simp_all [can64, pick64, nan64, x64, y64, o64, sign64, tr, bi, no, un, Flt.u64, Flt.i64, v, E.den, Bi.den, Un.den, b2i]
    all_goals (try (have hx := Int.not_le.2 (by assumption : (1 : Int) < fordI _ _ _); simp [hx]))
  · intros
    have h : u 0 = 163 := by omega
    have e1 : selF binL64 (.lit 0) 163 = can64 (bi (.far .quo .f64) x64 y64) := rfl
    have e2 : selF ([97, 98, 99, 100, 101, 102, 160, 161, 162, 163, 164, 165, 166].map fun k => (k, .lit 0)) (.lit 500) 163 = .lit 0 := rfl
    simp only [h, e1, e2]
    clear e1 e2
    simp_all [can64, pick64, nan64, x64, y64, o64, sign64, tr, bi, no, un, Flt.u64, Flt.i64, v, E.den, Bi.den, Un.den, b2i]
    all_goals (try (have hx := Int.not_le.2 (by assumption : (1 : Int) < fordI _ _ _); simp [hx]))
  · intros
    have h : u 0 = 163 := by omega
    have e1 : selF binL64 (.lit 0) 163 = can64 (bi (.far .quo .f64) x64 y64) := rfl
    have e2 : selF ([97, 98, 99, 100, 101, 102, 160, 161, 162, 163, 164, 165, 166].map fun k => (k, .lit 0)) (.lit 500) 163 = .lit 0 := rfl
    simp only [h, e1, e2]
    clear e1 e2
    simp_all [can64, pick64, nan64, x64, y64, o64, sign64, tr, bi, no, un, Flt.u64, Flt.i64, v, E.den, Bi.den, Un.den, b2i]
    all_goals (try (have hx := Int.not_le.2 (by assumption : (1 : Int) < fordI _ _ _); simp [hx]))
  · intros
    rcases (show u 0 = 164 ∨ u 0 = 165 by omega) with h | h
    · have e1 : selF binL64 (.lit 0) 164 = pick64 true := rfl
      have e2 : selF ([97, 98, 99, 100, 101, 102, 160, 161, 162, 163, 164, 165, 166].map fun k => (k, .lit 0)) (.lit 500) 164 = .lit 0 := rfl
      simp only [h, e1, e2]
      clear e1 e2
      simp_all [can64, pick64, nan64, x64, y64, o64, sign64, tr, bi, no, un, Flt.u64, Flt.i64, v, E.den, Bi.den, Un.den, b2i]
      all_goals (try (have hx := Int.not_le.2 (by assumption : (1 : Int) < fordI _ _ _); simp [hx]))
    · have e1 : selF binL64 (.lit 0) 165 = pick64 false := rfl
      have e2 : selF ([97, 98, 99, 100, 101, 102, 160, 161, 162, 163, 164, 165, 166].map fun k => (k, .lit 0)) (.lit 500) 165 = .lit 0 := rfl
      simp only [h, e1, e2]
      clear e1 e2
      simp_all [can64, pick64, nan64, x64, y64, o64, sign64, tr, bi, no, un, Flt.u64, Flt.i64, v, E.den, Bi.den, Un.den, b2i]
      all_goals (try (have hx := Int.not_le.2 (by assumption : (1 : Int) < fordI _ _ _); simp [hx]))
  · intros
    rcases (show u 0 = 164 ∨ u 0 = 165 by omega) with h | h
    · have e1 : selF binL64 (.lit 0) 164 = pick64 true := rfl
      have e2 : selF ([97, 98, 99, 100, 101, 102, 160, 161, 162, 163, 164, 165, 166].map fun k => (k, .lit 0)) (.lit 500) 164 = .lit 0 := rfl
      simp only [h, e1, e2]
      clear e1 e2
      simp_all [can64, pick64, nan64, x64, y64, o64, sign64, tr, bi, no, un, Flt.u64, Flt.i64, v, E.den, Bi.den, Un.den, b2i]
      all_goals (try (have hx := Int.not_le.2 (by assumption : (1 : Int) < fordI _ _ _); simp [hx]))
    · have e1 : selF binL64 (.lit 0) 165 = pick64 false := rfl
      have e2 : selF ([97, 98, 99, 100, 101, 102, 160, 161, 162, 163, 164, 165, 166].map fun k => (k, .lit 0)) (.lit 500) 165 = .lit 0 := rfl
      simp only [h, e1, e2]
      clear e1 e2
      simp_all [can64, pick64, nan64, x64, y64, o64, sign64, tr, bi, no, un, Flt.u64, Flt.i64, v, E.den, Bi.den, Un.den, b2i]
      all_goals (try (have hx := Int.not_le.2 (by assumption : (1 : Int) < fordI _ _ _); simp [hx]))
  · intros
    have h : u 0 = 164 := by omega
    have e1 : selF binL64 (.lit 0) 164 = pick64 true := rfl
    have e2 : selF ([97, 98, 99, 100, 101, 102, 160, 161, 162, 163, 164, 165, 166].map fun k => (k, .lit 0)) (.lit 500) 164 = .lit 0 := rfl
    simp only [h, e1, e2]
    clear e1 e2
    simp_all [can64, pick64, nan64, x64, y64, o64, sign64, tr, bi, no, un, Flt.u64, Flt.i64, v, E.den, Bi.den, Un.den, b2i]
    all_goals (try (have hx := Int.not_le.2 (by assumption : (1 : Int) < fordI _ _ _); simp [hx]))
  · intros
    have h : u 0 = 165 := by omega
    have e1 : selF binL64 (.lit 0) 165 = pick64 false := rfl
    have e2 : selF ([97, 98, 99, 100, 101, 102, 160, 161, 162, 163, 164, 165, 166].map fun k => (k, .lit 0)) (.lit 500) 165 = .lit 0 := rfl
    simp only [h, e1, e2]
    clear e1 e2
    simp_all [can64, pick64, nan64, x64, y64, o64, sign64, tr, bi, no, un, Flt.u64, Flt.i64, v, E.den, Bi.den, Un.den, b2i]
    all_goals (try (have hx := Int.not_le.2 (by assumption : (1 : Int) < fordI _ _ _); simp [hx]))
  · intros
    have h : u 0 = 166 := by omega
    have e1 : selF binL64 (.lit 0) 166 = bi (.bits .or .i64) (bi (.bits .andNot .i64) (v 1) sign64) (bi (.bits .and .i64) (v 2) sign64) := rfl
    have e2 : selF ([97, 98, 99, 100, 101, 102, 160, 161, 162, 163, 164, 165, 166].map fun k => (k, .lit 0)) (.lit 500) 166 = .lit 0 := rfl
    simp only [h, e1, e2]
    clear e1 e2
    simp_all [can64, pick64, nan64, x64, y64, o64, sign64, tr, bi, no, un, Flt.u64, Flt.i64, v, E.den, Bi.den, Un.den, b2i]
    all_goals (try (have hx := Int.not_le.2 (by assumption : (1 : Int) < fordI _ _ _); simp [hx]))
  · intros
    rw [selF_none _ _ _ (by intro p hp; simp [binL64] at hp; omega), selF_none _ _ _ (by intro p hp; simp at hp; omega)]
    exact ⟨rfl, rfl⟩
  · intros
    rw [selF_none _ _ _ (by intro p hp; simp [binL64] at hp; omega), selF_none _ _ _ (by intro p hp; simp at hp; omega)]
    exact ⟨rfl, rfl⟩
  · intros
    rw [selF_none _ _ _ (by intro p hp; simp [binL64] at hp; omega), selF_none _ _ _ (by intro p hp; simp at hp; omega)]
    exact ⟨rfl, rfl⟩

theorem aw_plain (u : Nat → Int) : Keeps ⟨u, fnF⟩ aw64.res awR := by simp [aw64, awR, Keeps, chain, SameL, unOne]
end Go.Proofs.Ytnodelimomljbaa.PlainOp64
