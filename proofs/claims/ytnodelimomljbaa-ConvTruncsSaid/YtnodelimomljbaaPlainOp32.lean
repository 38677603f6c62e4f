/- The contract of f32n.Bin, in numbers alone. No condition. -/
import Derived.Test.YtnodelimomljbaaRunOp32
namespace Go.Proofs.Ytnodelimomljbaa.PlainOp32
open Go Go.Sx Go.Sx.Flt Go.Proofs.Ytnodelimomljbaa.RunOp32

theorem unOne2 (a b : Option IntKind × E) (vs : List V) : unOne [a, b].length (.tup vs) = vs := rfl
theorem binV_den (ρ : Env) : binV32.den ρ = (selF binL32 (.lit 0) (ρ.v 0)).den ρ := den_sel _ _ _
theorem binE_den (ρ : Env) : binE32.den ρ = (selF ([91, 92, 93, 94, 95, 96, 146, 147, 148, 149, 152].map fun k => (k, .lit 0)) (.lit 400) (ρ.v 0)).den ρ := den_sel _ _ _
set_option linter.unusedSimpArgs false
set_option linter.unusedVariables false
theorem bin_plain (u : Nat → Int) (hk : KindOk u 0 binS32.ks) : Keeps ⟨u, fnF⟩ binS32.res binR := by
  simp only [binS32, binR, Keeps, chain, unOne2, SameL, E.prop, E.den, Bi.den, Un.den, true_and, and_true, binV_den, binE_den]
  refine ⟨?_, ?_, ?_, ?_, ?_, ?_, ?_, ?_, ?_, ?_, ?_, ?_, ?_, ?_, ?_, ?_, ?_, ?_, ?_, ?_, ?_, ?_, ?_, ?_, ?_, ?_, ?_, ?_, ?_, ?_, ?_, ?_⟩
  · intros
    have h : u 0 = 91 := by omega
    have e1 : selF binL32 (.lit 0) 91 = tr (bi .eq o32 (.lit 0)) := rfl
    have e2 : selF ([91, 92, 93, 94, 95, 96, 146, 147, 148, 149, 152].map fun k => (k, .lit 0)) (.lit 400) 91 = .lit 0 := rfl
    simp only [h, e1, e2]
    clear e1 e2
    simp_all [can32, nan32, x32, y32, o32, sign32, tr, bi, no, un, Flt.u32, v, E.den, Bi.den, Un.den, b2i]
    all_goals (try (have hx := Int.not_le.2 (by assumption : (1 : Int) < fordI _ _ _); simp [hx]))
  · intros
    have h : u 0 = 91 := by omega
    have e1 : selF binL32 (.lit 0) 91 = tr (bi .eq o32 (.lit 0)) := rfl
    have e2 : selF ([91, 92, 93, 94, 95, 96, 146, 147, 148, 149, 152].map fun k => (k, .lit 0)) (.lit 400) 91 = .lit 0 := rfl
    simp only [h, e1, e2]
    clear e1 e2
    simp_all [can32, nan32, x32, y32, o32, sign32, tr, bi, no, un, Flt.u32, v, E.den, Bi.den, Un.den, b2i]
    all_goals (try (have hx := Int.not_le.2 (by assumption : (1 : Int) < fordI _ _ _); simp [hx]))
  · intros
    have h : u 0 = 92 := by omega
    have e1 : selF binL32 (.lit 0) 92 = tr (no (bi .eq o32 (.lit 0))) := rfl
    have e2 : selF ([91, 92, 93, 94, 95, 96, 146, 147, 148, 149, 152].map fun k => (k, .lit 0)) (.lit 400) 92 = .lit 0 := rfl
    simp only [h, e1, e2]
    clear e1 e2
    simp_all [can32, nan32, x32, y32, o32, sign32, tr, bi, no, un, Flt.u32, v, E.den, Bi.den, Un.den, b2i]
    all_goals (try (have hx := Int.not_le.2 (by assumption : (1 : Int) < fordI _ _ _); simp [hx]))
  · intros
    have h : u 0 = 92 := by omega
    have e1 : selF binL32 (.lit 0) 92 = tr (no (bi .eq o32 (.lit 0))) := rfl
    have e2 : selF ([91, 92, 93, 94, 95, 96, 146, 147, 148, 149, 152].map fun k => (k, .lit 0)) (.lit 400) 92 = .lit 0 := rfl
    simp only [h, e1, e2]
    clear e1 e2
    simp_all [can32, nan32, x32, y32, o32, sign32, tr, bi, no, un, Flt.u32, v, E.den, Bi.den, Un.den, b2i]
    all_goals (try (have hx := Int.not_le.2 (by assumption : (1 : Int) < fordI _ _ _); simp [hx]))
  · intros
    have h : u 0 = 93 := by omega
    have e1 : selF binL32 (.lit 0) 93 = tr (bi .eq o32 (.lit 1)) := rfl
    have e2 : selF ([91, 92, 93, 94, 95, 96, 146, 147, 148, 149, 152].map fun k => (k, .lit 0)) (.lit 400) 93 = .lit 0 := rfl
    simp only [h, e1, e2]
    clear e1 e2
    simp_all [can32, nan32, x32, y32, o32, sign32, tr, bi, no, un, Flt.u32, v, E.den, Bi.den, Un.den, b2i]
    all_goals (try (have hx := Int.not_le.2 (by assumption : (1 : Int) < fordI _ _ _); simp [hx]))
  · intros
    have h : u 0 = 93 := by omega
    have e1 : selF binL32 (.lit 0) 93 = tr (bi .eq o32 (.lit 1)) := rfl
    have e2 : selF ([91, 92, 93, 94, 95, 96, 146, 147, 148, 149, 152].map fun k => (k, .lit 0)) (.lit 400) 93 = .lit 0 := rfl
    simp only [h, e1, e2]
    clear e1 e2
    simp_all [can32, nan32, x32, y32, o32, sign32, tr, bi, no, un, Flt.u32, v, E.den, Bi.den, Un.den, b2i]
    all_goals (try (have hx := Int.not_le.2 (by assumption : (1 : Int) < fordI _ _ _); simp [hx]))
  · intros
    have h : u 0 = 94 := by omega
    have e1 : selF binL32 (.lit 0) 94 = tr (bi .eq o32 (.lit 2)) := rfl
    have e2 : selF ([91, 92, 93, 94, 95, 96, 146, 147, 148, 149, 152].map fun k => (k, .lit 0)) (.lit 400) 94 = .lit 0 := rfl
    simp only [h, e1, e2]
    clear e1 e2
    simp_all [can32, nan32, x32, y32, o32, sign32, tr, bi, no, un, Flt.u32, v, E.den, Bi.den, Un.den, b2i]
    all_goals (try (have hx := Int.not_le.2 (by assumption : (1 : Int) < fordI _ _ _); simp [hx]))
  · intros
    have h : u 0 = 94 := by omega
    have e1 : selF binL32 (.lit 0) 94 = tr (bi .eq o32 (.lit 2)) := rfl
    have e2 : selF ([91, 92, 93, 94, 95, 96, 146, 147, 148, 149, 152].map fun k => (k, .lit 0)) (.lit 400) 94 = .lit 0 := rfl
    simp only [h, e1, e2]
    clear e1 e2
    simp_all [can32, nan32, x32, y32, o32, sign32, tr, bi, no, un, Flt.u32, v, E.den, Bi.den, Un.den, b2i]
    all_goals (try (have hx := Int.not_le.2 (by assumption : (1 : Int) < fordI _ _ _); simp [hx]))
  · intros
    have h : u 0 = 95 := by omega
    have e1 : selF binL32 (.lit 0) 95 = tr (bi .le o32 (.lit 1)) := rfl
    have e2 : selF ([91, 92, 93, 94, 95, 96, 146, 147, 148, 149, 152].map fun k => (k, .lit 0)) (.lit 400) 95 = .lit 0 := rfl
    simp only [h, e1, e2]
    clear e1 e2
    simp_all [can32, nan32, x32, y32, o32, sign32, tr, bi, no, un, Flt.u32, v, E.den, Bi.den, Un.den, b2i]
    all_goals (try (have hx := Int.not_le.2 (by assumption : (1 : Int) < fordI _ _ _); simp [hx]))
  · intros
    have h : u 0 = 95 := by omega
    have e1 : selF binL32 (.lit 0) 95 = tr (bi .le o32 (.lit 1)) := rfl
    have e2 : selF ([91, 92, 93, 94, 95, 96, 146, 147, 148, 149, 152].map fun k => (k, .lit 0)) (.lit 400) 95 = .lit 0 := rfl
    simp only [h, e1, e2]
    clear e1 e2
    simp_all [can32, nan32, x32, y32, o32, sign32, tr, bi, no, un, Flt.u32, v, E.den, Bi.den, Un.den, b2i]
    all_goals (try (have hx := Int.not_le.2 (by assumption : (1 : Int) < fordI _ _ _); simp [hx]))
  · intros
    have h : u 0 = 96 := by omega
    have e1 : selF binL32 (.lit 0) 96 = tr (bi .or (bi .eq o32 (.lit 2)) (bi .eq o32 (.lit 0))) := rfl
    have e2 : selF ([91, 92, 93, 94, 95, 96, 146, 147, 148, 149, 152].map fun k => (k, .lit 0)) (.lit 400) 96 = .lit 0 := rfl
    simp only [h, e1, e2]
    clear e1 e2
    simp_all [can32, nan32, x32, y32, o32, sign32, tr, bi, no, un, Flt.u32, v, E.den, Bi.den, Un.den, b2i]
    all_goals (try (have hx := Int.not_le.2 (by assumption : (1 : Int) < fordI _ _ _); simp [hx]))
  · intros
    have h : u 0 = 96 := by omega
    have e1 : selF binL32 (.lit 0) 96 = tr (bi .or (bi .eq o32 (.lit 2)) (bi .eq o32 (.lit 0))) := rfl
    have e2 : selF ([91, 92, 93, 94, 95, 96, 146, 147, 148, 149, 152].map fun k => (k, .lit 0)) (.lit 400) 96 = .lit 0 := rfl
    simp only [h, e1, e2]
    clear e1 e2
    simp_all [can32, nan32, x32, y32, o32, sign32, tr, bi, no, un, Flt.u32, v, E.den, Bi.den, Un.den, b2i]
    all_goals (try (have hx := Int.not_le.2 (by assumption : (1 : Int) < fordI _ _ _); simp [hx]))
  · intros
    have h : u 0 = 146 := by omega
    have e1 : selF binL32 (.lit 0) 146 = can32 (bi (.far .add .f32) x32 y32) := rfl
    have e2 : selF ([91, 92, 93, 94, 95, 96, 146, 147, 148, 149, 152].map fun k => (k, .lit 0)) (.lit 400) 146 = .lit 0 := rfl
    simp only [h, e1, e2]
    clear e1 e2
    simp_all [can32, nan32, x32, y32, o32, sign32, tr, bi, no, un, Flt.u32, v, E.den, Bi.den, Un.den, b2i]
    all_goals (try (have hx := Int.not_le.2 (by assumption : (1 : Int) < fordI _ _ _); simp [hx]))
  · intros
    have h : u 0 = 146 := by omega
    have e1 : selF binL32 (.lit 0) 146 = can32 (bi (.far .add .f32) x32 y32) := rfl
    have e2 : selF ([91, 92, 93, 94, 95, 96, 146, 147, 148, 149, 152].map fun k => (k, .lit 0)) (.lit 400) 146 = .lit 0 := rfl
    simp only [h, e1, e2]
    clear e1 e2
    simp_all [can32, nan32, x32, y32, o32, sign32, tr, bi, no, un, Flt.u32, v, E.den, Bi.den, Un.den, b2i]
    all_goals (try (have hx := Int.not_le.2 (by assumption : (1 : Int) < fordI _ _ _); simp [hx]))
  · intros
    have h : u 0 = 147 := by omega
    have e1 : selF binL32 (.lit 0) 147 = can32 (bi (.far .sub .f32) x32 y32) := rfl
    have e2 : selF ([91, 92, 93, 94, 95, 96, 146, 147, 148, 149, 152].map fun k => (k, .lit 0)) (.lit 400) 147 = .lit 0 := rfl
    simp only [h, e1, e2]
    clear e1 e2
    simp_all [can32, nan32, x32, y32, o32, sign32, tr, bi, no, un, Flt.u32, v, E.den, Bi.den, Un.den, b2i]
    all_goals (try (have hx := Int.not_le.2 (by assumption : (1 : Int) < fordI _ _ _); simp [hx]))
  · intros
    have h : u 0 = 147 := by omega
    have e1 : selF binL32 (.lit 0) 147 = can32 (bi (.far .sub .f32) x32 y32) := rfl
    have e2 : selF ([91, 92, 93, 94, 95, 96, 146, 147, 148, 149, 152].map fun k => (k, .lit 0)) (.lit 400) 147 = .lit 0 := rfl
    simp only [h, e1, e2]
    clear e1 e2
    simp_all [can32, nan32, x32, y32, o32, sign32, tr, bi, no, un, Flt.u32, v, E.den, Bi.den, Un.den, b2i]
    all_goals (try (have hx := Int.not_le.2 (by assumption : (1 : Int) < fordI _ _ _); simp [hx]))
  · intros
    have h : u 0 = 148 := by omega
    have e1 : selF binL32 (.lit 0) 148 = can32 (bi (.far .mul .f32) x32 y32) := rfl
    have e2 : selF ([91, 92, 93, 94, 95, 96, 146, 147, 148, 149, 152].map fun k => (k, .lit 0)) (.lit 400) 148 = .lit 0 := rfl
    simp only [h, e1, e2]
    clear e1 e2
    simp_all [can32, nan32, x32, y32, o32, sign32, tr, bi, no, un, Flt.u32, v, E.den, Bi.den, Un.den, b2i]
    all_goals (try (have hx := Int.not_le.2 (by assumption : (1 : Int) < fordI _ _ _); simp [hx]))
  · intros
    have h : u 0 = 148 := by omega
    have e1 : selF binL32 (.lit 0) 148 = can32 (bi (.far .mul .f32) x32 y32) := rfl
    have e2 : selF ([91, 92, 93, 94, 95, 96, 146, 147, 148, 149, 152].map fun k => (k, .lit 0)) (.lit 400) 148 = .lit 0 := rfl
    simp only [h, e1, e2]
    clear e1 e2
    simp_all [can32, nan32, x32, y32, o32, sign32, tr, bi, no, un, Flt.u32, v, E.den, Bi.den, Un.den, b2i]
    all_goals (try (have hx := Int.not_le.2 (by assumption : (1 : Int) < fordI _ _ _); simp [hx]))
  · intros
    have h : u 0 = 149 := by omega
    have e1 : selF binL32 (.lit 0) 149 = can32 (bi (.far .quo .f32) x32 y32) := rfl
    have e2 : selF ([91, 92, 93, 94, 95, 96, 146, 147, 148, 149, 152].map fun k => (k, .lit 0)) (.lit 400) 149 = .lit 0 := rfl
    simp only [h, e1, e2]
    clear e1 e2
    simp_all [can32, nan32, x32, y32, o32, sign32, tr, bi, no, un, Flt.u32, v, E.den, Bi.den, Un.den, b2i]
    all_goals (try (have hx := Int.not_le.2 (by assumption : (1 : Int) < fordI _ _ _); simp [hx]))
  · intros
    have h : u 0 = 149 := by omega
    have e1 : selF binL32 (.lit 0) 149 = can32 (bi (.far .quo .f32) x32 y32) := rfl
    have e2 : selF ([91, 92, 93, 94, 95, 96, 146, 147, 148, 149, 152].map fun k => (k, .lit 0)) (.lit 400) 149 = .lit 0 := rfl
    simp only [h, e1, e2]
    clear e1 e2
    simp_all [can32, nan32, x32, y32, o32, sign32, tr, bi, no, un, Flt.u32, v, E.den, Bi.den, Un.den, b2i]
    all_goals (try (have hx := Int.not_le.2 (by assumption : (1 : Int) < fordI _ _ _); simp [hx]))
  · intros
    exfalso; omega
  · intros
    exfalso; omega
  · intros
    exfalso; omega
  · intros
    exfalso; omega
  · intros
    exfalso; omega
  · intros
    exfalso; omega
  · intros
    exfalso; omega
  · intros
    exfalso; omega
  · intros
    have h : u 0 = 152 := by omega
    have e1 : selF binL32 (.lit 0) 152 = u32 (bi (.bits .or .i64) (bi (.bits .andNot .i64) (v 1) sign32) (bi (.bits .and .i64) (v 2) sign32)) := rfl
    have e2 : selF ([91, 92, 93, 94, 95, 96, 146, 147, 148, 149, 152].map fun k => (k, .lit 0)) (.lit 400) 152 = .lit 0 := rfl
    simp only [h, e1, e2]
    clear e1 e2
    simp_all [can32, nan32, x32, y32, o32, sign32, tr, bi, no, un, Flt.u32, v, E.den, Bi.den, Un.den, b2i]
    all_goals (try (have hx := Int.not_le.2 (by assumption : (1 : Int) < fordI _ _ _); simp [hx]))
  · intros
    rw [selF_none _ _ _ (by intro p hp; simp [binL32] at hp; omega), selF_none _ _ _ (by intro p hp; simp at hp; omega)]
    exact ⟨rfl, rfl⟩
  · intros
    rw [selF_none _ _ _ (by intro p hp; simp [binL32] at hp; omega), selF_none _ _ _ (by intro p hp; simp at hp; omega)]
    exact ⟨rfl, rfl⟩
  · intros
    rw [selF_none _ _ _ (by intro p hp; simp [binL32] at hp; omega), selF_none _ _ _ (by intro p hp; simp at hp; omega)]
    exact ⟨rfl, rfl⟩
theorem aw_plain (u : Nat → Int) : Keeps ⟨u, fnF⟩ aw32.res awR := by simp [aw32, awR, Keeps, chain, SameL, unOne]
end Go.Proofs.Ytnodelimomljbaa.PlainOp32

