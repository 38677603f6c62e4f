/- The contract of f32n.Bin, in numbers alone. No condition. -/
import Derived.Test.YtnodelimomljbaaRunOpT
import Derived.Test.YtnodelimomljbaaPlFltK
namespace Go.Proofs.Ytnodelimomljbaa.PlainOpT
open Go Go.Sx Go.Sx.Flt Go.Proofs.Ytnodelimomljbaa.RunOpT

theorem unOne2 (a b : Option IntKind × E) (vs : List V) : unOne [a, b].length (.tup vs) = vs := rfl
theorem binV_den (ρ : Env) : binTV32.den ρ = (selF binT32L (.lit 0) (ρ.v 0)).den ρ := den_sel _ _ _
theorem binE_den (ρ : Env) : binTE32.den ρ = (selF ([91, 92, 93, 94, 95, 96, 146, 147, 148, 149, 150, 151, 152].map fun k => (k, .lit 0)) (.lit 400) (ρ.v 0)).den ρ := den_sel _ _ _
set_option linter.unusedSimpArgs false
set_option linter.unusedVariables false
theorem bin_plain (u : Nat → Int) (hk : KindOk u 0 binT32.ks) : Keeps ⟨u, fnF⟩ binT32.res binR := by
  simp only [binT32, binR, Keeps, chain, unOne2, SameL, E.prop, E.den, Bi.den, Un.den, true_and, and_true, binV_den, binE_den]
  refine ⟨?_, ?_, ?_, ?_, ?_, ?_, ?_, ?_, ?_, ?_, ?_, ?_, ?_, ?_, ?_, ?_, ?_, ?_, ?_, ?_, ?_, ?_, ?_, ?_, ?_, ?_, ?_, ?_, ?_, ?_, ?_, ?_⟩
  · intros
    have h : u 0 = 91 := by omega
    have e1 : selF binT32L (.lit 0) 91 = tr (bi .eq o32 (.lit 0)) := rfl
    have e2 : selF ([91, 92, 93, 94, 95, 96, 146, 147, 148, 149, 150, 151, 152].map fun k => (k, .lit 0)) (.lit 400) 91 = .lit 0 := rfl
    simp only [h, e1, e2]
    clear e1 e2
    simp_all [can32, nan32, x32, y32, o32, sign32, pickE32, tr, bi, no, un, Flt.u32, v, E.den, Bi.den, Un.den, b2i]
    all_goals (try (have hx := Int.not_le.2 (by assumption : (1 : Int) < fordI _ _ _); simp [hx]))
  · intros
    have h : u 0 = 91 := by omega
    have e1 : selF binT32L (.lit 0) 91 = tr (bi .eq o32 (.lit 0)) := rfl
    have e2 : selF ([91, 92, 93, 94, 95, 96, 146, 147, 148, 149, 150, 151, 152].map fun k => (k, .lit 0)) (.lit 400) 91 = .lit 0 := rfl
    simp only [h, e1, e2]
    clear e1 e2
    simp_all [can32, nan32, x32, y32, o32, sign32, pickE32, tr, bi, no, un, Flt.u32, v, E.den, Bi.den, Un.den, b2i]
    all_goals (try (have hx := Int.not_le.2 (by assumption : (1 : Int) < fordI _ _ _); simp [hx]))
  · intros
    have h : u 0 = 92 := by omega
    have e1 : selF binT32L (.lit 0) 92 = tr (no (bi .eq o32 (.lit 0))) := rfl
    have e2 : selF ([91, 92, 93, 94, 95, 96, 146, 147, 148, 149, 150, 151, 152].map fun k => (k, .lit 0)) (.lit 400) 92 = .lit 0 := rfl
    simp only [h, e1, e2]
    clear e1 e2
    simp_all [can32, nan32, x32, y32, o32, sign32, pickE32, tr, bi, no, un, Flt.u32, v, E.den, Bi.den, Un.den, b2i]
    all_goals (try (have hx := Int.not_le.2 (by assumption : (1 : Int) < fordI _ _ _); simp [hx]))
  · intros
    have h : u 0 = 92 := by omega
    have e1 : selF binT32L (.lit 0) 92 = tr (no (bi .eq o32 (.lit 0))) := rfl
    have e2 : selF ([91, 92, 93, 94, 95, 96, 146, 147, 148, 149, 150, 151, 152].map fun k => (k, .lit 0)) (.lit 400) 92 = .lit 0 := rfl
    simp only [h, e1, e2]
    clear e1 e2
    simp_all [can32, nan32, x32, y32, o32, sign32, pickE32, tr, bi, no, un, Flt.u32, v, E.den, Bi.den, Un.den, b2i]
    all_goals (try (have hx := Int.not_le.2 (by assumption : (1 : Int) < fordI _ _ _); simp [hx]))
  · intros
    have h : u 0 = 93 := by omega
    have e1 : selF binT32L (.lit 0) 93 = tr (bi .eq o32 (.lit 1)) := rfl
    have e2 : selF ([91, 92, 93, 94, 95, 96, 146, 147, 148, 149, 150, 151, 152].map fun k => (k, .lit 0)) (.lit 400) 93 = .lit 0 := rfl
    simp only [h, e1, e2]
    clear e1 e2
    simp_all [can32, nan32, x32, y32, o32, sign32, pickE32, tr, bi, no, un, Flt.u32, v, E.den, Bi.den, Un.den, b2i]
    all_goals (try (have hx := Int.not_le.2 (by assumption : (1 : Int) < fordI _ _ _); simp [hx]))
  · intros
    have h : u 0 = 93 := by omega
    have e1 : selF binT32L (.lit 0) 93 = tr (bi .eq o32 (.lit 1)) := rfl
    have e2 : selF ([91, 92, 93, 94, 95, 96, 146, 147, 148, 149, 150, 151, 152].map fun k => (k, .lit 0)) (.lit 400) 93 = .lit 0 := rfl
    simp only [h, e1, e2]
    clear e1 e2
    simp_all [can32, nan32, x32, y32, o32, sign32, pickE32, tr, bi, no, un, Flt.u32, v, E.den, Bi.den, Un.den, b2i]
    all_goals (try (have hx := Int.not_le.2 (by assumption : (1 : Int) < fordI _ _ _); simp [hx]))
  · intros
    have h : u 0 = 94 := by omega
    have e1 : selF binT32L (.lit 0) 94 = tr (bi .eq o32 (.lit 2)) := rfl
    have e2 : selF ([91, 92, 93, 94, 95, 96, 146, 147, 148, 149, 150, 151, 152].map fun k => (k, .lit 0)) (.lit 400) 94 = .lit 0 := rfl
    simp only [h, e1, e2]
    clear e1 e2
    simp_all [can32, nan32, x32, y32, o32, sign32, pickE32, tr, bi, no, un, Flt.u32, v, E.den, Bi.den, Un.den, b2i]
    all_goals (try (have hx := Int.not_le.2 (by assumption : (1 : Int) < fordI _ _ _); simp [hx]))
  · intros
    have h : u 0 = 94 := by omega
    have e1 : selF binT32L (.lit 0) 94 = tr (bi .eq o32 (.lit 2)) := rfl
    have e2 : selF ([91, 92, 93, 94, 95, 96, 146, 147, 148, 149, 150, 151, 152].map fun k => (k, .lit 0)) (.lit 400) 94 = .lit 0 := rfl
    simp only [h, e1, e2]
    clear e1 e2
    simp_all [can32, nan32, x32, y32, o32, sign32, pickE32, tr, bi, no, un, Flt.u32, v, E.den, Bi.den, Un.den, b2i]
    all_goals (try (have hx := Int.not_le.2 (by assumption : (1 : Int) < fordI _ _ _); simp [hx]))
  · intros
    have h : u 0 = 95 := by omega
    have e1 : selF binT32L (.lit 0) 95 = tr (bi .le o32 (.lit 1)) := rfl
    have e2 : selF ([91, 92, 93, 94, 95, 96, 146, 147, 148, 149, 150, 151, 152].map fun k => (k, .lit 0)) (.lit 400) 95 = .lit 0 := rfl
    simp only [h, e1, e2]
    clear e1 e2
    simp_all [can32, nan32, x32, y32, o32, sign32, pickE32, tr, bi, no, un, Flt.u32, v, E.den, Bi.den, Un.den, b2i]
    all_goals (try (have hx := Int.not_le.2 (by assumption : (1 : Int) < fordI _ _ _); simp [hx]))
  · intros
    have h : u 0 = 95 := by omega
    have e1 : selF binT32L (.lit 0) 95 = tr (bi .le o32 (.lit 1)) := rfl
    have e2 : selF ([91, 92, 93, 94, 95, 96, 146, 147, 148, 149, 150, 151, 152].map fun k => (k, .lit 0)) (.lit 400) 95 = .lit 0 := rfl
    simp only [h, e1, e2]
    clear e1 e2
    simp_all [can32, nan32, x32, y32, o32, sign32, pickE32, tr, bi, no, un, Flt.u32, v, E.den, Bi.den, Un.den, b2i]
    all_goals (try (have hx := Int.not_le.2 (by assumption : (1 : Int) < fordI _ _ _); simp [hx]))
  · intros
    have h : u 0 = 96 := by omega
    have e1 : selF binT32L (.lit 0) 96 = tr (bi .or (bi .eq o32 (.lit 2)) (bi .eq o32 (.lit 0))) := rfl
    have e2 : selF ([91, 92, 93, 94, 95, 96, 146, 147, 148, 149, 150, 151, 152].map fun k => (k, .lit 0)) (.lit 400) 96 = .lit 0 := rfl
    simp only [h, e1, e2]
    clear e1 e2
    simp_all [can32, nan32, x32, y32, o32, sign32, pickE32, tr, bi, no, un, Flt.u32, v, E.den, Bi.den, Un.den, b2i]
    all_goals (try (have hx := Int.not_le.2 (by assumption : (1 : Int) < fordI _ _ _); simp [hx]))
  · intros
    have h : u 0 = 96 := by omega
    have e1 : selF binT32L (.lit 0) 96 = tr (bi .or (bi .eq o32 (.lit 2)) (bi .eq o32 (.lit 0))) := rfl
    have e2 : selF ([91, 92, 93, 94, 95, 96, 146, 147, 148, 149, 150, 151, 152].map fun k => (k, .lit 0)) (.lit 400) 96 = .lit 0 := rfl
    simp only [h, e1, e2]
    clear e1 e2
    simp_all [can32, nan32, x32, y32, o32, sign32, pickE32, tr, bi, no, un, Flt.u32, v, E.den, Bi.den, Un.den, b2i]
    all_goals (try (have hx := Int.not_le.2 (by assumption : (1 : Int) < fordI _ _ _); simp [hx]))
  · intros
    have h : u 0 = 146 := by omega
    have e1 : selF binT32L (.lit 0) 146 = can32 (bi (.far .add .f32) x32 y32) := rfl
    have e2 : selF ([91, 92, 93, 94, 95, 96, 146, 147, 148, 149, 150, 151, 152].map fun k => (k, .lit 0)) (.lit 400) 146 = .lit 0 := rfl
    simp only [h, e1, e2]
    clear e1 e2
    simp_all [can32, nan32, x32, y32, o32, sign32, pickE32, tr, bi, no, un, Flt.u32, v, E.den, Bi.den, Un.den, b2i]
    all_goals (try (have hx := Int.not_le.2 (by assumption : (1 : Int) < fordI _ _ _); simp [hx]))
  · intros
    have h : u 0 = 146 := by omega
    have e1 : selF binT32L (.lit 0) 146 = can32 (bi (.far .add .f32) x32 y32) := rfl
    have e2 : selF ([91, 92, 93, 94, 95, 96, 146, 147, 148, 149, 150, 151, 152].map fun k => (k, .lit 0)) (.lit 400) 146 = .lit 0 := rfl
    simp only [h, e1, e2]
    clear e1 e2
    simp_all [can32, nan32, x32, y32, o32, sign32, pickE32, tr, bi, no, un, Flt.u32, v, E.den, Bi.den, Un.den, b2i]
    all_goals (try (have hx := Int.not_le.2 (by assumption : (1 : Int) < fordI _ _ _); simp [hx]))
  · intros
    have h : u 0 = 147 := by omega
    have e1 : selF binT32L (.lit 0) 147 = can32 (bi (.far .sub .f32) x32 y32) := rfl
    have e2 : selF ([91, 92, 93, 94, 95, 96, 146, 147, 148, 149, 150, 151, 152].map fun k => (k, .lit 0)) (.lit 400) 147 = .lit 0 := rfl
    simp only [h, e1, e2]
    clear e1 e2
    simp_all [can32, nan32, x32, y32, o32, sign32, pickE32, tr, bi, no, un, Flt.u32, v, E.den, Bi.den, Un.den, b2i]
    all_goals (try (have hx := Int.not_le.2 (by assumption : (1 : Int) < fordI _ _ _); simp [hx]))
  · intros
    have h : u 0 = 147 := by omega
    have e1 : selF binT32L (.lit 0) 147 = can32 (bi (.far .sub .f32) x32 y32) := rfl
    have e2 : selF ([91, 92, 93, 94, 95, 96, 146, 147, 148, 149, 150, 151, 152].map fun k => (k, .lit 0)) (.lit 400) 147 = .lit 0 := rfl
    simp only [h, e1, e2]
    clear e1 e2
    simp_all [can32, nan32, x32, y32, o32, sign32, pickE32, tr, bi, no, un, Flt.u32, v, E.den, Bi.den, Un.den, b2i]
    all_goals (try (have hx := Int.not_le.2 (by assumption : (1 : Int) < fordI _ _ _); simp [hx]))
  · intros
    have h : u 0 = 148 := by omega
    have e1 : selF binT32L (.lit 0) 148 = can32 (bi (.far .mul .f32) x32 y32) := rfl
    have e2 : selF ([91, 92, 93, 94, 95, 96, 146, 147, 148, 149, 150, 151, 152].map fun k => (k, .lit 0)) (.lit 400) 148 = .lit 0 := rfl
    simp only [h, e1, e2]
    clear e1 e2
    simp_all [can32, nan32, x32, y32, o32, sign32, pickE32, tr, bi, no, un, Flt.u32, v, E.den, Bi.den, Un.den, b2i]
    all_goals (try (have hx := Int.not_le.2 (by assumption : (1 : Int) < fordI _ _ _); simp [hx]))
  · intros
    have h : u 0 = 148 := by omega
    have e1 : selF binT32L (.lit 0) 148 = can32 (bi (.far .mul .f32) x32 y32) := rfl
    have e2 : selF ([91, 92, 93, 94, 95, 96, 146, 147, 148, 149, 150, 151, 152].map fun k => (k, .lit 0)) (.lit 400) 148 = .lit 0 := rfl
    simp only [h, e1, e2]
    clear e1 e2
    simp_all [can32, nan32, x32, y32, o32, sign32, pickE32, tr, bi, no, un, Flt.u32, v, E.den, Bi.den, Un.den, b2i]
    all_goals (try (have hx := Int.not_le.2 (by assumption : (1 : Int) < fordI _ _ _); simp [hx]))
  · intros
    have h : u 0 = 149 := by omega
    have e1 : selF binT32L (.lit 0) 149 = can32 (bi (.far .quo .f32) x32 y32) := rfl
    have e2 : selF ([91, 92, 93, 94, 95, 96, 146, 147, 148, 149, 150, 151, 152].map fun k => (k, .lit 0)) (.lit 400) 149 = .lit 0 := rfl
    simp only [h, e1, e2]
    clear e1 e2
    simp_all [can32, nan32, x32, y32, o32, sign32, pickE32, tr, bi, no, un, Flt.u32, v, E.den, Bi.den, Un.den, b2i]
    all_goals (try (have hx := Int.not_le.2 (by assumption : (1 : Int) < fordI _ _ _); simp [hx]))
  · intros
    have h : u 0 = 149 := by omega
    have e1 : selF binT32L (.lit 0) 149 = can32 (bi (.far .quo .f32) x32 y32) := rfl
    have e2 : selF ([91, 92, 93, 94, 95, 96, 146, 147, 148, 149, 150, 151, 152].map fun k => (k, .lit 0)) (.lit 400) 149 = .lit 0 := rfl
    simp only [h, e1, e2]
    clear e1 e2
    simp_all [can32, nan32, x32, y32, o32, sign32, pickE32, tr, bi, no, un, Flt.u32, v, E.den, Bi.den, Un.den, b2i]
    all_goals (try (have hx := Int.not_le.2 (by assumption : (1 : Int) < fordI _ _ _); simp [hx]))
  · intros
    rcases (show u 0 = 150 ∨ u 0 = 151 by omega) with h | h
    · have e1 : selF binT32L (.lit 0) 150 = pickE32 true := rfl
      have e2 : selF ([91, 92, 93, 94, 95, 96, 146, 147, 148, 149, 150, 151, 152].map fun k => (k, .lit 0)) (.lit 400) 150 = .lit 0 := rfl
      simp only [h, e1, e2]
      clear e1 e2
      simp_all [can32, nan32, x32, y32, o32, sign32, pickE32, tr, bi, no, un, Flt.u32, v, E.den, Bi.den, Un.den, b2i]
      all_goals (try (have hx := Int.not_le.2 (by assumption : (1 : Int) < fordI _ _ _); simp [hx]))
    · have e1 : selF binT32L (.lit 0) 151 = pickE32 false := rfl
      have e2 : selF ([91, 92, 93, 94, 95, 96, 146, 147, 148, 149, 150, 151, 152].map fun k => (k, .lit 0)) (.lit 400) 151 = .lit 0 := rfl
      simp only [h, e1, e2]
      clear e1 e2
      simp_all [can32, nan32, x32, y32, o32, sign32, pickE32, tr, bi, no, un, Flt.u32, v, E.den, Bi.den, Un.den, b2i]
      all_goals (try (have hx := Int.not_le.2 (by assumption : (1 : Int) < fordI _ _ _); simp [hx]))
  · intros
    rcases (show u 0 = 150 ∨ u 0 = 151 by omega) with h | h
    · have e1 : selF binT32L (.lit 0) 150 = pickE32 true := rfl
      have e2 : selF ([91, 92, 93, 94, 95, 96, 146, 147, 148, 149, 150, 151, 152].map fun k => (k, .lit 0)) (.lit 400) 150 = .lit 0 := rfl
      simp only [h, e1, e2]
      clear e1 e2
      simp_all [can32, nan32, x32, y32, o32, sign32, pickE32, tr, bi, no, un, Flt.u32, v, E.den, Bi.den, Un.den, b2i]
      all_goals (try (have hx := Int.not_le.2 (by assumption : (1 : Int) < fordI _ _ _); simp [hx]))
    · have e1 : selF binT32L (.lit 0) 151 = pickE32 false := rfl
      have e2 : selF ([91, 92, 93, 94, 95, 96, 146, 147, 148, 149, 150, 151, 152].map fun k => (k, .lit 0)) (.lit 400) 151 = .lit 0 := rfl
      simp only [h, e1, e2]
      clear e1 e2
      simp_all [can32, nan32, x32, y32, o32, sign32, pickE32, tr, bi, no, un, Flt.u32, v, E.den, Bi.den, Un.den, b2i]
      all_goals (try (have hx := Int.not_le.2 (by assumption : (1 : Int) < fordI _ _ _); simp [hx]))
  · intros
    have h : u 0 = 150 := by omega
    have e1 : selF binT32L (.lit 0) 150 = pickE32 true := rfl
    have e2 : selF ([91, 92, 93, 94, 95, 96, 146, 147, 148, 149, 150, 151, 152].map fun k => (k, .lit 0)) (.lit 400) 150 = .lit 0 := rfl
    simp only [h, e1, e2]
    clear e1 e2
    simp_all [can32, nan32, x32, y32, o32, sign32, pickE32, tr, bi, no, un, Flt.u32, v, E.den, Bi.den, Un.den, b2i]
    all_goals (try (have hx := Int.not_le.2 (by assumption : (1 : Int) < fordI _ _ _); simp [hx]))
  · intros
    exact absurd (by assumption) (pick32_ne _ (by assumption) (by assumption))
  · intros
    exact absurd (by assumption) (pick32_ne _ (by assumption) (by assumption))
  · intros
    have h : u 0 = 151 := by omega
    have e1 : selF binT32L (.lit 0) 151 = pickE32 false := rfl
    have e2 : selF ([91, 92, 93, 94, 95, 96, 146, 147, 148, 149, 150, 151, 152].map fun k => (k, .lit 0)) (.lit 400) 151 = .lit 0 := rfl
    simp only [h, e1, e2]
    clear e1 e2
    simp_all [can32, nan32, x32, y32, o32, sign32, pickE32, tr, bi, no, un, Flt.u32, v, E.den, Bi.den, Un.den, b2i]
    all_goals (try (have hx := Int.not_le.2 (by assumption : (1 : Int) < fordI _ _ _); simp [hx]))
  · intros
    exact absurd (by assumption) (pick32_ne _ (by assumption) (by assumption))
  · intros
    exact absurd (by assumption) (pick32_ne _ (by assumption) (by assumption))
  · intros
    have h : u 0 = 152 := by omega
    have e1 : selF binT32L (.lit 0) 152 = u32 (bi (.bits .or .i64) (bi (.bits .andNot .i64) (v 1) sign32) (bi (.bits .and .i64) (v 2) sign32)) := rfl
    have e2 : selF ([91, 92, 93, 94, 95, 96, 146, 147, 148, 149, 150, 151, 152].map fun k => (k, .lit 0)) (.lit 400) 152 = .lit 0 := rfl
    simp only [h, e1, e2]
    clear e1 e2
    simp_all [can32, nan32, x32, y32, o32, sign32, pickE32, tr, bi, no, un, Flt.u32, v, E.den, Bi.den, Un.den, b2i]
    all_goals (try (have hx := Int.not_le.2 (by assumption : (1 : Int) < fordI _ _ _); simp [hx]))
  · intros
    rw [selF_none _ _ _ (by intro p hp; simp [binT32L] at hp; omega), selF_none _ _ _ (by intro p hp; simp at hp; omega)]
    exact ⟨rfl, rfl⟩
  · intros
    rw [selF_none _ _ _ (by intro p hp; simp [binT32L] at hp; omega), selF_none _ _ _ (by intro p hp; simp at hp; omega)]
    exact ⟨rfl, rfl⟩
  · intros
    rw [selF_none _ _ _ (by intro p hp; simp [binT32L] at hp; omega), selF_none _ _ _ (by intro p hp; simp at hp; omega)]
    exact ⟨rfl, rfl⟩
theorem bT (u : Nat → Int) : 0 ≤ (selF binT32L (.lit 0) (u 0)).den ⟨u, fnF⟩ ∧ (selF binT32L (.lit 0) (u 0)).den ⟨u, fnF⟩ ≤ 4294967295 := by
  have tt : ∀ c : E, 0 ≤ (tr c).den ⟨u, fnF⟩ ∧ (tr c).den ⟨u, fnF⟩ ≤ 4294967295 := fun c => by simp only [tr, E.den]; split <;> decide
  have cc : ∀ op, 0 ≤ (can32 (bi (.far op .f32) x32 y32)).den ⟨u, fnF⟩ ∧ (can32 (bi (.far op .f32) x32 y32)).den ⟨u, fnF⟩ ≤ 4294967295 := fun op => by
    simp only [can32, bi, nan32, E.den, Bi.den, b2i_ne, beq_iff_eq]
    split
    · decide
    · rename_i h; have := (far_good h).1; simp only [topF] at this; exact this
  have pp : ∀ g, 0 ≤ (pickE32 g).den ⟨u, fnF⟩ ∧ (pickE32 g).den ⟨u, fnF⟩ ≤ 4294967295 := fun g => by
    simp only [pickE32, bi, no, un, nan32, x32, y32, Flt.u32, v, E.den, Bi.den, Un.den, b2i_ne, beq_iff_eq]
    split
    · decide
    · split
      · decide
      · rename_i h1 h2
        have a1 := w32_in (u 1)
        have a2 := w32_in (u 2)
        rw [w32_eq] at *
        rw [w32_eq] at *
        have h1 : fordI .f32 (W32 (u 1)) (W32 (u 1)) = 0 := Classical.byContradiction fun c => h1 (by simp [b2i, c])
        have h2 : fordI .f32 (W32 (u 2)) (W32 (u 2)) = 0 := Classical.byContradiction fun c => h2 (by simp [b2i, c])
        rw [pick32 g a1 a2 (num_of_ford a1 h1) (num_of_ford a2 h2)]
        simp only [topF] at a1 a2
        cases g <;> simp only [if_true, Bool.false_eq_true, if_false] <;> split <;> omega
  have ll : ∀ e : E, 0 ≤ (Flt.u32 e).den ⟨u, fnF⟩ ∧ (Flt.u32 e).den ⟨u, fnF⟩ ≤ 4294967295 := fun e => of_kind (has_kind .u32 _)
  have rng : ∀ (l : List (Int × E)) (d : E) (n : Int), (∀ p ∈ l, 0 ≤ p.2.den ⟨u, fnF⟩ ∧ p.2.den ⟨u, fnF⟩ ≤ 4294967295) → (0 ≤ d.den ⟨u, fnF⟩ ∧ d.den ⟨u, fnF⟩ ≤ 4294967295) → 0 ≤ (selF l d n).den ⟨u, fnF⟩ ∧ (selF l d n).den ⟨u, fnF⟩ ≤ 4294967295 := by
    intro l d n
    induction l with
    | nil => exact fun _ h => h
    | cons p r ih =>
      intro h hd
      obtain ⟨k, e⟩ := p
      simp only [selF]
      by_cases hk : n = k
      · rw [if_pos hk]; exact h _ List.mem_cons_self
      · rw [if_neg hk]; exact ih (fun q hq => h q (List.mem_cons_of_mem _ hq)) hd
  refine rng _ _ _ (fun p hp => ?_) (by simp [E.den])
  simp only [binT32L, List.mem_cons, List.not_mem_nil, or_false] at hp
  rcases hp with rfl | rfl | rfl | rfl | rfl | rfl | rfl | rfl | rfl | rfl | rfl | rfl | rfl <;> first | exact tt _ | exact cc _ | exact pp _ | exact ll _
end Go.Proofs.Ytnodelimomljbaa.PlainOpT

