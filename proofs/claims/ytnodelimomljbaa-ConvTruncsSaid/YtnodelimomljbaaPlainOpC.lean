/- The contract of convn.Of, of the floats that are cut, in numbers alone. No condition. -/
import Derived.Test.YtnodelimomljbaaRunOpC
import Derived.Test.YtnodelimomljbaaPlFltP
namespace Go.Proofs.Ytnodelimomljbaa.PlainOpC
open Go Go.Sx Go.Sx.Flt Go.Proofs.Ytnodelimomljbaa.RunOpC

theorem unOne2 (a b : Option IntKind × E) (vs : List V) : unOne [a, b].length (.tup vs) = vs := rfl
theorem cvV_den (ρ : Env) : cvV.den ρ = (selF cvL (.lit 0) (ρ.v 0)).den ρ := den_sel _ _ _
theorem cvE_den (ρ : Env) : cvE.den ρ = (selF cvEL (.lit 600) (ρ.v 0)).den ρ := den_sel _ _ _
theorem c32_ok (x : Int) (h : ¬ fconvI .f32 .f64 (W32 x) = -1) : (0 ≤ fconvI .f32 .f64 (W32 x) ∧ fconvI .f32 .f64 (W32 x) ≤ topF .f64) ∧ mg .f64 (fconvI .f32 .f64 (W32 x)) ≤ kI .f64 := by
  have hx := w32_in x
  by_cases hn : mg .f32 (W32 x) ≤ kI .f32
  · rw [conv_up hx hn]
    obtain ⟨a, _, b, _⟩ := upW_facts hx hn
    exact ⟨a, b⟩
  · exfalso
    apply h
    refine (conv_nan .f32 .f64 (W32 x)).1 ?_
    have := Ieee.Format.read
    have hr := read_nan Ieee.single (by decide) ((nan_nat (k := .f32) hx).2 (by omega))
    show (Ieee.single.read _).isNaN = true
    rw [hr]; rfl
theorem i64_id {n : Int} (h : -9223372036854775808 ≤ n ∧ n < 9223372036854775808) : IntKind.i64.wrap n = n := by
  simp only [IntKind.wrap, IntKind.bits, IntKind.signed]; simp; split <;> omega
theorem b2i_z (b : Bool) : (b2i b = 0) ↔ b = false := by cases b <;> simp [b2i]
theorem c64_ok (x : Int) (h : fordI .f64 (W64 x) (W64 x) = 0) : (0 ≤ W64 x ∧ W64 x ≤ topF .f64) ∧ mg .f64 (W64 x) ≤ kI .f64 := ⟨w64_in x, num_of_ford (w64_in x) h⟩
set_option linter.unusedSimpArgs false
set_option linter.unusedVariables false
set_option maxHeartbeats 2000000 in
theorem cv_plain (u : Nat → Int) (hk : KindOk u 0 cvS.ks) : Keeps ⟨u, fnF⟩ cvS.res cvR := by
  have h0 : -9223372036854775808 ≤ u 0 ∧ u 0 ≤ 9223372036854775807 := of_kind hk.1
  simp only [cvS, cvR, Keeps, chain, unOne2, SameL, E.prop, E.den, Bi.den, Un.den, true_and, and_true, cvV_den, cvE_den, w32_eq, w64_eq, b2i_ne, beq_iff_eq, decide_eq_true_eq, Bool.or_eq_true, Bool.and_eq_true]
  refine ⟨?_, ?_, ?_, ?_, ?_, ?_, ?_, ?_, ?_, ?_, ?_, ?_, ?_, ?_, ?_, ?_, ?_, ?_, ?_, ?_, ?_, ?_, ?_, ?_, ?_, ?_, ?_, ?_, ?_, ?_, ?_, ?_, ?_, ?_, ?_, ?_, ?_, ?_, ?_, ?_, ?_, ?_, ?_, ?_, ?_⟩
  · intros
    have hop : u 0 = 168 := by omega
    have hX := c32_ok (u 1) (by assumption)
    have F := cut_in hX.1 hX.2 ends_s32
    have e1 : selF cvL (.lit 0) 168 = cutV cn32 cx32 (-2147483648) 2147483648 Flt.u32 := rfl
    have e2 : selF cvEL (.lit 600) 168 = cutE cn32 cx32 (-2147483648) 2147483648 := rfl
    simp only [hop, e1, e2, cutV, cutE, cn32, cn64, cx32, cx64, cutT, bi, no, un, v, Flt.u32, Flt.u64, Flt.i64, E.den, Bi.den, Un.den, w32_eq, w64_eq, b2i_ne, b2i_z, beq_eq_false_iff_ne, ne_eq, beq_iff_eq, decide_eq_true_eq, decide_eq_false_iff_not, Bool.not_eq_true', decide_not, Decidable.not_not]
    clear e1 e2
    generalize hXX : fconvI .f32 .f64 (W32 (u 1)) = X at *
    rcases F.1 (by assumption) with c | c
    · refine ⟨?_, ?_⟩ <;> (repeat' split) <;> first | rfl | contradiction | omega | (exfalso; omega)
    · refine ⟨?_, ?_⟩ <;> (repeat' split) <;> first | rfl | contradiction | omega | (exfalso; omega)
  · intros
    have hop : u 0 = 168 := by omega
    have hX := c32_ok (u 1) (by assumption)
    have F := cut_in hX.1 hX.2 ends_s32
    have e1 : selF cvL (.lit 0) 168 = cutV cn32 cx32 (-2147483648) 2147483648 Flt.u32 := rfl
    have e2 : selF cvEL (.lit 600) 168 = cutE cn32 cx32 (-2147483648) 2147483648 := rfl
    simp only [hop, e1, e2, cutV, cutE, cn32, cn64, cx32, cx64, cutT, bi, no, un, v, Flt.u32, Flt.u64, Flt.i64, E.den, Bi.den, Un.den, w32_eq, w64_eq, b2i_ne, b2i_z, beq_eq_false_iff_ne, ne_eq, beq_iff_eq, decide_eq_true_eq, decide_eq_false_iff_not, Bool.not_eq_true', decide_not, Decidable.not_not]
    clear e1 e2
    generalize hXX : fconvI .f32 .f64 (W32 (u 1)) = X at *
    have c := F.2.1 (by assumption) (by assumption)
    refine ⟨?_, ?_⟩ <;> (repeat' split) <;> first | rfl | contradiction | omega | (exfalso; omega)
  · intros
    have hop : u 0 = 168 := by omega
    have hX := c32_ok (u 1) (by assumption)
    have F := cut_in hX.1 hX.2 ends_s32
    have e1 : selF cvL (.lit 0) 168 = cutV cn32 cx32 (-2147483648) 2147483648 Flt.u32 := rfl
    have e2 : selF cvEL (.lit 600) 168 = cutE cn32 cx32 (-2147483648) 2147483648 := rfl
    simp only [hop, e1, e2, cutV, cutE, cn32, cn64, cx32, cx64, cutT, bi, no, un, v, Flt.u32, Flt.u64, Flt.i64, E.den, Bi.den, Un.den, w32_eq, w64_eq, b2i_ne, b2i_z, beq_eq_false_iff_ne, ne_eq, beq_iff_eq, decide_eq_true_eq, decide_eq_false_iff_not, Bool.not_eq_true', decide_not, Decidable.not_not]
    clear e1 e2
    generalize hXX : fconvI .f32 .f64 (W32 (u 1)) = X at *
    obtain ⟨c1, c2, c3⟩ := F.2.2 (by assumption) (by assumption)
    rw [c3]
    refine ⟨?_, ?_⟩ <;> (repeat' split) <;> first | rfl | contradiction | omega | (exfalso; omega)
  · intros
    have hop : u 0 = 168 := by omega
    have hX := c32_ok (u 1) (by assumption)
    have F := cut_in hX.1 hX.2 ends_s32
    have e1 : selF cvL (.lit 0) 168 = cutV cn32 cx32 (-2147483648) 2147483648 Flt.u32 := rfl
    have e2 : selF cvEL (.lit 600) 168 = cutE cn32 cx32 (-2147483648) 2147483648 := rfl
    simp only [hop, e1, e2, cutV, cutE, cn32, cn64, cx32, cx64, cutT, bi, no, un, v, Flt.u32, Flt.u64, Flt.i64, E.den, Bi.den, Un.den, w32_eq, w64_eq, b2i_ne, b2i_z, beq_eq_false_iff_ne, ne_eq, beq_iff_eq, decide_eq_true_eq, decide_eq_false_iff_not, Bool.not_eq_true', decide_not, Decidable.not_not]
    clear e1 e2
    generalize hXX : fconvI .f32 .f64 (W32 (u 1)) = X at *
    obtain ⟨c1, c2, c3⟩ := F.2.2 (by assumption) (by assumption)
    exfalso; rw [c3] at *; omega
  · intros
    have hop : u 0 = 169 := by omega
    have hX := c32_ok (u 1) (by assumption)
    have F := cut_in hX.1 hX.2 ends_u32
    have e1 : selF cvL (.lit 0) 169 = cutV cn32 cx32 0 4294967296 Flt.u32 := rfl
    have e2 : selF cvEL (.lit 600) 169 = cutE cn32 cx32 0 4294967296 := rfl
    simp only [hop, e1, e2, cutV, cutE, cn32, cn64, cx32, cx64, cutT, bi, no, un, v, Flt.u32, Flt.u64, Flt.i64, E.den, Bi.den, Un.den, w32_eq, w64_eq, b2i_ne, b2i_z, beq_eq_false_iff_ne, ne_eq, beq_iff_eq, decide_eq_true_eq, decide_eq_false_iff_not, Bool.not_eq_true', decide_not, Decidable.not_not]
    clear e1 e2
    generalize hXX : fconvI .f32 .f64 (W32 (u 1)) = X at *
    rcases F.1 (by assumption) with c | c
    · refine ⟨?_, ?_⟩ <;> (repeat' split) <;> first | rfl | contradiction | omega | (exfalso; omega)
    · refine ⟨?_, ?_⟩ <;> (repeat' split) <;> first | rfl | contradiction | omega | (exfalso; omega)
  · intros
    have hop : u 0 = 169 := by omega
    have hX := c32_ok (u 1) (by assumption)
    have F := cut_in hX.1 hX.2 ends_u32
    have e1 : selF cvL (.lit 0) 169 = cutV cn32 cx32 0 4294967296 Flt.u32 := rfl
    have e2 : selF cvEL (.lit 600) 169 = cutE cn32 cx32 0 4294967296 := rfl
    simp only [hop, e1, e2, cutV, cutE, cn32, cn64, cx32, cx64, cutT, bi, no, un, v, Flt.u32, Flt.u64, Flt.i64, E.den, Bi.den, Un.den, w32_eq, w64_eq, b2i_ne, b2i_z, beq_eq_false_iff_ne, ne_eq, beq_iff_eq, decide_eq_true_eq, decide_eq_false_iff_not, Bool.not_eq_true', decide_not, Decidable.not_not]
    clear e1 e2
    generalize hXX : fconvI .f32 .f64 (W32 (u 1)) = X at *
    have c := F.2.1 (by assumption) (by assumption)
    refine ⟨?_, ?_⟩ <;> (repeat' split) <;> first | rfl | contradiction | omega | (exfalso; omega)
  · intros
    have hop : u 0 = 169 := by omega
    have hX := c32_ok (u 1) (by assumption)
    have F := cut_in hX.1 hX.2 ends_u32
    have e1 : selF cvL (.lit 0) 169 = cutV cn32 cx32 0 4294967296 Flt.u32 := rfl
    have e2 : selF cvEL (.lit 600) 169 = cutE cn32 cx32 0 4294967296 := rfl
    simp only [hop, e1, e2, cutV, cutE, cn32, cn64, cx32, cx64, cutT, bi, no, un, v, Flt.u32, Flt.u64, Flt.i64, E.den, Bi.den, Un.den, w32_eq, w64_eq, b2i_ne, b2i_z, beq_eq_false_iff_ne, ne_eq, beq_iff_eq, decide_eq_true_eq, decide_eq_false_iff_not, Bool.not_eq_true', decide_not, Decidable.not_not]
    clear e1 e2
    generalize hXX : fconvI .f32 .f64 (W32 (u 1)) = X at *
    obtain ⟨c1, c2, c3⟩ := F.2.2 (by assumption) (by assumption)
    rw [c3]
    refine ⟨?_, ?_⟩ <;> (repeat' split) <;> first | rfl | contradiction | omega | (exfalso; omega)
  · intros
    have hop : u 0 = 169 := by omega
    have hX := c32_ok (u 1) (by assumption)
    have F := cut_in hX.1 hX.2 ends_u32
    have e1 : selF cvL (.lit 0) 169 = cutV cn32 cx32 0 4294967296 Flt.u32 := rfl
    have e2 : selF cvEL (.lit 600) 169 = cutE cn32 cx32 0 4294967296 := rfl
    simp only [hop, e1, e2, cutV, cutE, cn32, cn64, cx32, cx64, cutT, bi, no, un, v, Flt.u32, Flt.u64, Flt.i64, E.den, Bi.den, Un.den, w32_eq, w64_eq, b2i_ne, b2i_z, beq_eq_false_iff_ne, ne_eq, beq_iff_eq, decide_eq_true_eq, decide_eq_false_iff_not, Bool.not_eq_true', decide_not, Decidable.not_not]
    clear e1 e2
    generalize hXX : fconvI .f32 .f64 (W32 (u 1)) = X at *
    obtain ⟨c1, c2, c3⟩ := F.2.2 (by assumption) (by assumption)
    exfalso; rw [c3] at *; omega
  · intros
    have hop : u 0 = 168 ∨ u 0 = 169 := by omega
    rcases hop with hop | hop
    · have e1 : selF cvL (.lit 0) 168 = cutV cn32 cx32 (-2147483648) 2147483648 Flt.u32 := rfl
      have e2 : selF cvEL (.lit 600) 168 = cutE cn32 cx32 (-2147483648) 2147483648 := rfl
      simp only [hop, e1, e2, cutV, cutE, cn32, cn64, cx32, cx64, cutT, bi, no, un, v, Flt.u32, Flt.u64, Flt.i64, E.den, Bi.den, Un.den, w32_eq, w64_eq, b2i_ne, b2i_z, beq_eq_false_iff_ne, ne_eq, beq_iff_eq, decide_eq_true_eq, decide_eq_false_iff_not, Bool.not_eq_true', decide_not, Decidable.not_not]
      simp [*]
    · have e1 : selF cvL (.lit 0) 169 = cutV cn32 cx32 0 4294967296 Flt.u32 := rfl
      have e2 : selF cvEL (.lit 600) 169 = cutE cn32 cx32 0 4294967296 := rfl
      simp only [hop, e1, e2, cutV, cutE, cn32, cn64, cx32, cx64, cutT, bi, no, un, v, Flt.u32, Flt.u64, Flt.i64, E.den, Bi.den, Un.den, w32_eq, w64_eq, b2i_ne, b2i_z, beq_eq_false_iff_ne, ne_eq, beq_iff_eq, decide_eq_true_eq, decide_eq_false_iff_not, Bool.not_eq_true', decide_not, Decidable.not_not]
      simp [*]
  · intros
    have hop : u 0 = 170 ∨ u 0 = 171 := by omega
    rcases hop with hop | hop
    · have e1 : selF cvL (.lit 0) 170 = cutV cn64 cx64 (-2147483648) 2147483648 Flt.u32 := rfl
      have e2 : selF cvEL (.lit 600) 170 = cutE cn64 cx64 (-2147483648) 2147483648 := rfl
      simp only [hop, e1, e2, cutV, cutE, cn32, cn64, cx32, cx64, cutT, bi, no, un, v, Flt.u32, Flt.u64, Flt.i64, E.den, Bi.den, Un.den, w32_eq, w64_eq, b2i_ne, b2i_z, beq_eq_false_iff_ne, ne_eq, beq_iff_eq, decide_eq_true_eq, decide_eq_false_iff_not, Bool.not_eq_true', decide_not, Decidable.not_not]
      simp [*]
    · have e1 : selF cvL (.lit 0) 171 = cutV cn64 cx64 0 4294967296 Flt.u32 := rfl
      have e2 : selF cvEL (.lit 600) 171 = cutE cn64 cx64 0 4294967296 := rfl
      simp only [hop, e1, e2, cutV, cutE, cn32, cn64, cx32, cx64, cutT, bi, no, un, v, Flt.u32, Flt.u64, Flt.i64, E.den, Bi.den, Un.den, w32_eq, w64_eq, b2i_ne, b2i_z, beq_eq_false_iff_ne, ne_eq, beq_iff_eq, decide_eq_true_eq, decide_eq_false_iff_not, Bool.not_eq_true', decide_not, Decidable.not_not]
      simp [*]
  · intros
    have hop : u 0 = 170 := by omega
    have hX := c64_ok (u 1) (by assumption)
    have F := cut_in hX.1 hX.2 ends_s32
    have e1 : selF cvL (.lit 0) 170 = cutV cn64 cx64 (-2147483648) 2147483648 Flt.u32 := rfl
    have e2 : selF cvEL (.lit 600) 170 = cutE cn64 cx64 (-2147483648) 2147483648 := rfl
    simp only [hop, e1, e2, cutV, cutE, cn32, cn64, cx32, cx64, cutT, bi, no, un, v, Flt.u32, Flt.u64, Flt.i64, E.den, Bi.den, Un.den, w32_eq, w64_eq, b2i_ne, b2i_z, beq_eq_false_iff_ne, ne_eq, beq_iff_eq, decide_eq_true_eq, decide_eq_false_iff_not, Bool.not_eq_true', decide_not, Decidable.not_not]
    clear e1 e2
    generalize hXX : W64 (u 1) = X at *
    rcases F.1 (by assumption) with c | c
    · refine ⟨?_, ?_⟩ <;> (repeat' split) <;> first | rfl | contradiction | omega | (exfalso; omega)
    · refine ⟨?_, ?_⟩ <;> (repeat' split) <;> first | rfl | contradiction | omega | (exfalso; omega)
  · intros
    have hop : u 0 = 170 := by omega
    have hX := c64_ok (u 1) (by assumption)
    have F := cut_in hX.1 hX.2 ends_s32
    have e1 : selF cvL (.lit 0) 170 = cutV cn64 cx64 (-2147483648) 2147483648 Flt.u32 := rfl
    have e2 : selF cvEL (.lit 600) 170 = cutE cn64 cx64 (-2147483648) 2147483648 := rfl
    simp only [hop, e1, e2, cutV, cutE, cn32, cn64, cx32, cx64, cutT, bi, no, un, v, Flt.u32, Flt.u64, Flt.i64, E.den, Bi.den, Un.den, w32_eq, w64_eq, b2i_ne, b2i_z, beq_eq_false_iff_ne, ne_eq, beq_iff_eq, decide_eq_true_eq, decide_eq_false_iff_not, Bool.not_eq_true', decide_not, Decidable.not_not]
    clear e1 e2
    generalize hXX : W64 (u 1) = X at *
    have c := F.2.1 (by assumption) (by assumption)
    refine ⟨?_, ?_⟩ <;> (repeat' split) <;> first | rfl | contradiction | omega | (exfalso; omega)
  · intros
    have hop : u 0 = 170 := by omega
    have hX := c64_ok (u 1) (by assumption)
    have F := cut_in hX.1 hX.2 ends_s32
    have e1 : selF cvL (.lit 0) 170 = cutV cn64 cx64 (-2147483648) 2147483648 Flt.u32 := rfl
    have e2 : selF cvEL (.lit 600) 170 = cutE cn64 cx64 (-2147483648) 2147483648 := rfl
    simp only [hop, e1, e2, cutV, cutE, cn32, cn64, cx32, cx64, cutT, bi, no, un, v, Flt.u32, Flt.u64, Flt.i64, E.den, Bi.den, Un.den, w32_eq, w64_eq, b2i_ne, b2i_z, beq_eq_false_iff_ne, ne_eq, beq_iff_eq, decide_eq_true_eq, decide_eq_false_iff_not, Bool.not_eq_true', decide_not, Decidable.not_not]
    clear e1 e2
    generalize hXX : W64 (u 1) = X at *
    obtain ⟨c1, c2, c3⟩ := F.2.2 (by assumption) (by assumption)
    rw [c3]
    refine ⟨?_, ?_⟩ <;> (repeat' split) <;> first | rfl | contradiction | omega | (exfalso; omega)
  · intros
    have hop : u 0 = 170 := by omega
    have hX := c64_ok (u 1) (by assumption)
    have F := cut_in hX.1 hX.2 ends_s32
    have e1 : selF cvL (.lit 0) 170 = cutV cn64 cx64 (-2147483648) 2147483648 Flt.u32 := rfl
    have e2 : selF cvEL (.lit 600) 170 = cutE cn64 cx64 (-2147483648) 2147483648 := rfl
    simp only [hop, e1, e2, cutV, cutE, cn32, cn64, cx32, cx64, cutT, bi, no, un, v, Flt.u32, Flt.u64, Flt.i64, E.den, Bi.den, Un.den, w32_eq, w64_eq, b2i_ne, b2i_z, beq_eq_false_iff_ne, ne_eq, beq_iff_eq, decide_eq_true_eq, decide_eq_false_iff_not, Bool.not_eq_true', decide_not, Decidable.not_not]
    clear e1 e2
    generalize hXX : W64 (u 1) = X at *
    obtain ⟨c1, c2, c3⟩ := F.2.2 (by assumption) (by assumption)
    exfalso; rw [c3] at *; omega
  · intros
    have hop : u 0 = 171 := by omega
    have hX := c64_ok (u 1) (by assumption)
    have F := cut_in hX.1 hX.2 ends_u32
    have e1 : selF cvL (.lit 0) 171 = cutV cn64 cx64 0 4294967296 Flt.u32 := rfl
    have e2 : selF cvEL (.lit 600) 171 = cutE cn64 cx64 0 4294967296 := rfl
    simp only [hop, e1, e2, cutV, cutE, cn32, cn64, cx32, cx64, cutT, bi, no, un, v, Flt.u32, Flt.u64, Flt.i64, E.den, Bi.den, Un.den, w32_eq, w64_eq, b2i_ne, b2i_z, beq_eq_false_iff_ne, ne_eq, beq_iff_eq, decide_eq_true_eq, decide_eq_false_iff_not, Bool.not_eq_true', decide_not, Decidable.not_not]
    clear e1 e2
    generalize hXX : W64 (u 1) = X at *
    rcases F.1 (by assumption) with c | c
    · refine ⟨?_, ?_⟩ <;> (repeat' split) <;> first | rfl | contradiction | omega | (exfalso; omega)
    · refine ⟨?_, ?_⟩ <;> (repeat' split) <;> first | rfl | contradiction | omega | (exfalso; omega)
  · intros
    have hop : u 0 = 171 := by omega
    have hX := c64_ok (u 1) (by assumption)
    have F := cut_in hX.1 hX.2 ends_u32
    have e1 : selF cvL (.lit 0) 171 = cutV cn64 cx64 0 4294967296 Flt.u32 := rfl
    have e2 : selF cvEL (.lit 600) 171 = cutE cn64 cx64 0 4294967296 := rfl
    simp only [hop, e1, e2, cutV, cutE, cn32, cn64, cx32, cx64, cutT, bi, no, un, v, Flt.u32, Flt.u64, Flt.i64, E.den, Bi.den, Un.den, w32_eq, w64_eq, b2i_ne, b2i_z, beq_eq_false_iff_ne, ne_eq, beq_iff_eq, decide_eq_true_eq, decide_eq_false_iff_not, Bool.not_eq_true', decide_not, Decidable.not_not]
    clear e1 e2
    generalize hXX : W64 (u 1) = X at *
    have c := F.2.1 (by assumption) (by assumption)
    refine ⟨?_, ?_⟩ <;> (repeat' split) <;> first | rfl | contradiction | omega | (exfalso; omega)
  · intros
    have hop : u 0 = 171 := by omega
    have hX := c64_ok (u 1) (by assumption)
    have F := cut_in hX.1 hX.2 ends_u32
    have e1 : selF cvL (.lit 0) 171 = cutV cn64 cx64 0 4294967296 Flt.u32 := rfl
    have e2 : selF cvEL (.lit 600) 171 = cutE cn64 cx64 0 4294967296 := rfl
    simp only [hop, e1, e2, cutV, cutE, cn32, cn64, cx32, cx64, cutT, bi, no, un, v, Flt.u32, Flt.u64, Flt.i64, E.den, Bi.den, Un.den, w32_eq, w64_eq, b2i_ne, b2i_z, beq_eq_false_iff_ne, ne_eq, beq_iff_eq, decide_eq_true_eq, decide_eq_false_iff_not, Bool.not_eq_true', decide_not, Decidable.not_not]
    clear e1 e2
    generalize hXX : W64 (u 1) = X at *
    obtain ⟨c1, c2, c3⟩ := F.2.2 (by assumption) (by assumption)
    rw [c3]
    refine ⟨?_, ?_⟩ <;> (repeat' split) <;> first | rfl | contradiction | omega | (exfalso; omega)
  · intros
    have hop : u 0 = 171 := by omega
    have hX := c64_ok (u 1) (by assumption)
    have F := cut_in hX.1 hX.2 ends_u32
    have e1 : selF cvL (.lit 0) 171 = cutV cn64 cx64 0 4294967296 Flt.u32 := rfl
    have e2 : selF cvEL (.lit 600) 171 = cutE cn64 cx64 0 4294967296 := rfl
    simp only [hop, e1, e2, cutV, cutE, cn32, cn64, cx32, cx64, cutT, bi, no, un, v, Flt.u32, Flt.u64, Flt.i64, E.den, Bi.den, Un.den, w32_eq, w64_eq, b2i_ne, b2i_z, beq_eq_false_iff_ne, ne_eq, beq_iff_eq, decide_eq_true_eq, decide_eq_false_iff_not, Bool.not_eq_true', decide_not, Decidable.not_not]
    clear e1 e2
    generalize hXX : W64 (u 1) = X at *
    obtain ⟨c1, c2, c3⟩ := F.2.2 (by assumption) (by assumption)
    exfalso; rw [c3] at *; omega
  · intros
    have hop : u 0 = 174 := by omega
    have hX := c32_ok (u 1) (by assumption)
    have F := cut_in hX.1 hX.2 ends_s64
    have e1 : selF cvL (.lit 0) 174 = cutV cn32 cx32 (-9223372036854775808) 9223372036854775808 Flt.i64 := rfl
    have e2 : selF cvEL (.lit 600) 174 = cutE cn32 cx32 (-9223372036854775808) 9223372036854775808 := rfl
    simp only [hop, e1, e2, cutV, cutE, cn32, cn64, cx32, cx64, cutT, bi, no, un, v, Flt.u32, Flt.u64, Flt.i64, E.den, Bi.den, Un.den, w32_eq, w64_eq, b2i_ne, b2i_z, beq_eq_false_iff_ne, ne_eq, beq_iff_eq, decide_eq_true_eq, decide_eq_false_iff_not, Bool.not_eq_true', decide_not, Decidable.not_not]
    clear e1 e2
    generalize hXX : fconvI .f32 .f64 (W32 (u 1)) = X at *
    rcases F.1 (by assumption) with c | c
    · refine ⟨?_, ?_⟩ <;> (repeat' split) <;> first | rfl | contradiction | omega | (exfalso; omega)
    · refine ⟨?_, ?_⟩ <;> (repeat' split) <;> first | rfl | contradiction | omega | (exfalso; omega)
  · intros
    have hop : u 0 = 174 := by omega
    have hX := c32_ok (u 1) (by assumption)
    have F := cut_in hX.1 hX.2 ends_s64
    have e1 : selF cvL (.lit 0) 174 = cutV cn32 cx32 (-9223372036854775808) 9223372036854775808 Flt.i64 := rfl
    have e2 : selF cvEL (.lit 600) 174 = cutE cn32 cx32 (-9223372036854775808) 9223372036854775808 := rfl
    simp only [hop, e1, e2, cutV, cutE, cn32, cn64, cx32, cx64, cutT, bi, no, un, v, Flt.u32, Flt.u64, Flt.i64, E.den, Bi.den, Un.den, w32_eq, w64_eq, b2i_ne, b2i_z, beq_eq_false_iff_ne, ne_eq, beq_iff_eq, decide_eq_true_eq, decide_eq_false_iff_not, Bool.not_eq_true', decide_not, Decidable.not_not]
    clear e1 e2
    generalize hXX : fconvI .f32 .f64 (W32 (u 1)) = X at *
    have c := F.2.1 (by assumption) (by assumption)
    refine ⟨?_, ?_⟩ <;> (repeat' split) <;> first | rfl | contradiction | omega | (exfalso; omega)
  · intros
    have hop : u 0 = 174 := by omega
    have hX := c32_ok (u 1) (by assumption)
    have F := cut_in hX.1 hX.2 ends_s64
    have e1 : selF cvL (.lit 0) 174 = cutV cn32 cx32 (-9223372036854775808) 9223372036854775808 Flt.i64 := rfl
    have e2 : selF cvEL (.lit 600) 174 = cutE cn32 cx32 (-9223372036854775808) 9223372036854775808 := rfl
    simp only [hop, e1, e2, cutV, cutE, cn32, cn64, cx32, cx64, cutT, bi, no, un, v, Flt.u32, Flt.u64, Flt.i64, E.den, Bi.den, Un.den, w32_eq, w64_eq, b2i_ne, b2i_z, beq_eq_false_iff_ne, ne_eq, beq_iff_eq, decide_eq_true_eq, decide_eq_false_iff_not, Bool.not_eq_true', decide_not, Decidable.not_not]
    clear e1 e2
    generalize hXX : fconvI .f32 .f64 (W32 (u 1)) = X at *
    obtain ⟨c1, c2, c3⟩ := F.2.2 (by assumption) (by assumption)
    rw [c3]
    rw [i64_id (by omega)]
    refine ⟨?_, ?_⟩ <;> (repeat' split) <;> first | rfl | contradiction | omega | (exfalso; omega)
  · intros
    have hop : u 0 = 174 := by omega
    have hX := c32_ok (u 1) (by assumption)
    have F := cut_in hX.1 hX.2 ends_s64
    have e1 : selF cvL (.lit 0) 174 = cutV cn32 cx32 (-9223372036854775808) 9223372036854775808 Flt.i64 := rfl
    have e2 : selF cvEL (.lit 600) 174 = cutE cn32 cx32 (-9223372036854775808) 9223372036854775808 := rfl
    simp only [hop, e1, e2, cutV, cutE, cn32, cn64, cx32, cx64, cutT, bi, no, un, v, Flt.u32, Flt.u64, Flt.i64, E.den, Bi.den, Un.den, w32_eq, w64_eq, b2i_ne, b2i_z, beq_eq_false_iff_ne, ne_eq, beq_iff_eq, decide_eq_true_eq, decide_eq_false_iff_not, Bool.not_eq_true', decide_not, Decidable.not_not]
    clear e1 e2
    generalize hXX : fconvI .f32 .f64 (W32 (u 1)) = X at *
    obtain ⟨c1, c2, c3⟩ := F.2.2 (by assumption) (by assumption)
    exfalso; rw [c3] at *; omega
  · intros
    have hop : u 0 = 175 := by omega
    have hX := c32_ok (u 1) (by assumption)
    have F := cut_in hX.1 hX.2 ends_u64
    have G := cut_63 hX.1 hX.2
    have e1 : selF cvL (.lit 0) 175 = cutV cn32 cx32 0 18446744073709551616 Flt.i64 := rfl
    have e2 : selF cvEL (.lit 600) 175 = cutE cn32 cx32 0 18446744073709551616 := rfl
    simp only [hop, e1, e2, cutV, cutE, cn32, cn64, cx32, cx64, cutT, bi, no, un, v, Flt.u32, Flt.u64, Flt.i64, E.den, Bi.den, Un.den, w32_eq, w64_eq, b2i_ne, b2i_z, beq_eq_false_iff_ne, ne_eq, beq_iff_eq, decide_eq_true_eq, decide_eq_false_iff_not, Bool.not_eq_true', decide_not, Decidable.not_not]
    clear e1 e2
    generalize hXX : fconvI .f32 .f64 (W32 (u 1)) = X at *
    rcases F.1 (by assumption) with c | c
    · refine ⟨?_, ?_⟩ <;> (repeat' split) <;> first | rfl | contradiction | omega | (exfalso; omega)
    · refine ⟨?_, ?_⟩ <;> (repeat' split) <;> first | rfl | contradiction | omega | (exfalso; omega)
  · intros
    have hop : u 0 = 175 := by omega
    have hX := c32_ok (u 1) (by assumption)
    have F := cut_in hX.1 hX.2 ends_u64
    have G := cut_63 hX.1 hX.2
    have e1 : selF cvL (.lit 0) 175 = cutV cn32 cx32 0 18446744073709551616 Flt.i64 := rfl
    have e2 : selF cvEL (.lit 600) 175 = cutE cn32 cx32 0 18446744073709551616 := rfl
    simp only [hop, e1, e2, cutV, cutE, cn32, cn64, cx32, cx64, cutT, bi, no, un, v, Flt.u32, Flt.u64, Flt.i64, E.den, Bi.den, Un.den, w32_eq, w64_eq, b2i_ne, b2i_z, beq_eq_false_iff_ne, ne_eq, beq_iff_eq, decide_eq_true_eq, decide_eq_false_iff_not, Bool.not_eq_true', decide_not, Decidable.not_not]
    clear e1 e2
    generalize hXX : fconvI .f32 .f64 (W32 (u 1)) = X at *
    have c := F.2.1 (by assumption) (by assumption)
    refine ⟨?_, ?_⟩ <;> (repeat' split) <;> first | rfl | contradiction | omega | (exfalso; omega)
  · intros
    have hop : u 0 = 175 := by omega
    have hX := c32_ok (u 1) (by assumption)
    have F := cut_in hX.1 hX.2 ends_u64
    have G := cut_63 hX.1 hX.2
    have e1 : selF cvL (.lit 0) 175 = cutV cn32 cx32 0 18446744073709551616 Flt.i64 := rfl
    have e2 : selF cvEL (.lit 600) 175 = cutE cn32 cx32 0 18446744073709551616 := rfl
    simp only [hop, e1, e2, cutV, cutE, cn32, cn64, cx32, cx64, cutT, bi, no, un, v, Flt.u32, Flt.u64, Flt.i64, E.den, Bi.den, Un.den, w32_eq, w64_eq, b2i_ne, b2i_z, beq_eq_false_iff_ne, ne_eq, beq_iff_eq, decide_eq_true_eq, decide_eq_false_iff_not, Bool.not_eq_true', decide_not, Decidable.not_not]
    clear e1 e2
    generalize hXX : fconvI .f32 .f64 (W32 (u 1)) = X at *
    obtain ⟨c1, c2, c3⟩ := F.2.2 (by assumption) (by assumption)
    have G2 := G (by assumption) (by assumption)
    have g := G2.1 (by assumption)
    rw [c3, i64_id (by omega)]
    refine ⟨?_, ?_⟩ <;> (repeat' split) <;> first | rfl | contradiction | omega | (exfalso; omega)
  · intros
    have hop : u 0 = 175 := by omega
    have hX := c32_ok (u 1) (by assumption)
    have F := cut_in hX.1 hX.2 ends_u64
    have G := cut_63 hX.1 hX.2
    have e1 : selF cvL (.lit 0) 175 = cutV cn32 cx32 0 18446744073709551616 Flt.i64 := rfl
    have e2 : selF cvEL (.lit 600) 175 = cutE cn32 cx32 0 18446744073709551616 := rfl
    simp only [hop, e1, e2, cutV, cutE, cn32, cn64, cx32, cx64, cutT, bi, no, un, v, Flt.u32, Flt.u64, Flt.i64, E.den, Bi.den, Un.den, w32_eq, w64_eq, b2i_ne, b2i_z, beq_eq_false_iff_ne, ne_eq, beq_iff_eq, decide_eq_true_eq, decide_eq_false_iff_not, Bool.not_eq_true', decide_not, Decidable.not_not]
    clear e1 e2
    generalize hXX : fconvI .f32 .f64 (W32 (u 1)) = X at *
    obtain ⟨c1, c2, c3⟩ := F.2.2 (by assumption) (by assumption)
    have G2 := G (by assumption) (by assumption)
    exfalso; have g := G2.1 (by assumption); rw [c3] at *; omega
  · intros
    have hop : u 0 = 175 := by omega
    have hX := c32_ok (u 1) (by assumption)
    have F := cut_in hX.1 hX.2 ends_u64
    have G := cut_63 hX.1 hX.2
    have e1 : selF cvL (.lit 0) 175 = cutV cn32 cx32 0 18446744073709551616 Flt.i64 := rfl
    have e2 : selF cvEL (.lit 600) 175 = cutE cn32 cx32 0 18446744073709551616 := rfl
    simp only [hop, e1, e2, cutV, cutE, cn32, cn64, cx32, cx64, cutT, bi, no, un, v, Flt.u32, Flt.u64, Flt.i64, E.den, Bi.den, Un.den, w32_eq, w64_eq, b2i_ne, b2i_z, beq_eq_false_iff_ne, ne_eq, beq_iff_eq, decide_eq_true_eq, decide_eq_false_iff_not, Bool.not_eq_true', decide_not, Decidable.not_not]
    clear e1 e2
    generalize hXX : fconvI .f32 .f64 (W32 (u 1)) = X at *
    obtain ⟨c1, c2, c3⟩ := F.2.2 (by assumption) (by assumption)
    have G2 := G (by assumption) (by assumption)
    obtain ⟨g1, g2, g3⟩ := G2.2 (by assumption)
    rw [g3, or63 (by omega), show ftruncI .f64 X - 9223372036854775808 + 9223372036854775808 = ftruncI .f64 X by omega]
    refine ⟨?_, ?_⟩ <;> (repeat' split) <;> first | rfl | contradiction | omega | (exfalso; omega)
  · intros
    have hop : u 0 = 175 := by omega
    have hX := c32_ok (u 1) (by assumption)
    have F := cut_in hX.1 hX.2 ends_u64
    have G := cut_63 hX.1 hX.2
    have e1 : selF cvL (.lit 0) 175 = cutV cn32 cx32 0 18446744073709551616 Flt.i64 := rfl
    have e2 : selF cvEL (.lit 600) 175 = cutE cn32 cx32 0 18446744073709551616 := rfl
    simp only [hop, e1, e2, cutV, cutE, cn32, cn64, cx32, cx64, cutT, bi, no, un, v, Flt.u32, Flt.u64, Flt.i64, E.den, Bi.den, Un.den, w32_eq, w64_eq, b2i_ne, b2i_z, beq_eq_false_iff_ne, ne_eq, beq_iff_eq, decide_eq_true_eq, decide_eq_false_iff_not, Bool.not_eq_true', decide_not, Decidable.not_not]
    clear e1 e2
    generalize hXX : fconvI .f32 .f64 (W32 (u 1)) = X at *
    obtain ⟨c1, c2, c3⟩ := F.2.2 (by assumption) (by assumption)
    have G2 := G (by assumption) (by assumption)
    exfalso; obtain ⟨g1, g2, g3⟩ := G2.2 (by assumption); rw [g3] at *; omega
  · intros
    have hop : u 0 = 175 := by omega
    have hX := c32_ok (u 1) (by assumption)
    have F := cut_in hX.1 hX.2 ends_u64
    have G := cut_63 hX.1 hX.2
    have e1 : selF cvL (.lit 0) 175 = cutV cn32 cx32 0 18446744073709551616 Flt.i64 := rfl
    have e2 : selF cvEL (.lit 600) 175 = cutE cn32 cx32 0 18446744073709551616 := rfl
    simp only [hop, e1, e2, cutV, cutE, cn32, cn64, cx32, cx64, cutT, bi, no, un, v, Flt.u32, Flt.u64, Flt.i64, E.den, Bi.den, Un.den, w32_eq, w64_eq, b2i_ne, b2i_z, beq_eq_false_iff_ne, ne_eq, beq_iff_eq, decide_eq_true_eq, decide_eq_false_iff_not, Bool.not_eq_true', decide_not, Decidable.not_not]
    clear e1 e2
    generalize hXX : fconvI .f32 .f64 (W32 (u 1)) = X at *
    obtain ⟨c1, c2, c3⟩ := F.2.2 (by assumption) (by assumption)
    have G2 := G (by assumption) (by assumption)
    exfalso; exact absurd (by assumption) (G2.2 (by assumption)).1
  · intros
    have hop : u 0 = 175 := by omega
    have hX := c32_ok (u 1) (by assumption)
    have F := cut_in hX.1 hX.2 ends_u64
    have G := cut_63 hX.1 hX.2
    have e1 : selF cvL (.lit 0) 175 = cutV cn32 cx32 0 18446744073709551616 Flt.i64 := rfl
    have e2 : selF cvEL (.lit 600) 175 = cutE cn32 cx32 0 18446744073709551616 := rfl
    simp only [hop, e1, e2, cutV, cutE, cn32, cn64, cx32, cx64, cutT, bi, no, un, v, Flt.u32, Flt.u64, Flt.i64, E.den, Bi.den, Un.den, w32_eq, w64_eq, b2i_ne, b2i_z, beq_eq_false_iff_ne, ne_eq, beq_iff_eq, decide_eq_true_eq, decide_eq_false_iff_not, Bool.not_eq_true', decide_not, Decidable.not_not]
    clear e1 e2
    generalize hXX : fconvI .f32 .f64 (W32 (u 1)) = X at *
    obtain ⟨c1, c2, c3⟩ := F.2.2 (by assumption) (by assumption)
    have G2 := G (by assumption) (by assumption)
    exfalso; exact absurd (by assumption) (G2.2 (by assumption)).1
  · intros
    have hop : u 0 = 174 ∨ u 0 = 175 := by omega
    rcases hop with hop | hop
    · have e1 : selF cvL (.lit 0) 174 = cutV cn32 cx32 (-9223372036854775808) 9223372036854775808 Flt.i64 := rfl
      have e2 : selF cvEL (.lit 600) 174 = cutE cn32 cx32 (-9223372036854775808) 9223372036854775808 := rfl
      simp only [hop, e1, e2, cutV, cutE, cn32, cn64, cx32, cx64, cutT, bi, no, un, v, Flt.u32, Flt.u64, Flt.i64, E.den, Bi.den, Un.den, w32_eq, w64_eq, b2i_ne, b2i_z, beq_eq_false_iff_ne, ne_eq, beq_iff_eq, decide_eq_true_eq, decide_eq_false_iff_not, Bool.not_eq_true', decide_not, Decidable.not_not]
      simp [*]
    · have e1 : selF cvL (.lit 0) 175 = cutV cn32 cx32 0 18446744073709551616 Flt.i64 := rfl
      have e2 : selF cvEL (.lit 600) 175 = cutE cn32 cx32 0 18446744073709551616 := rfl
      simp only [hop, e1, e2, cutV, cutE, cn32, cn64, cx32, cx64, cutT, bi, no, un, v, Flt.u32, Flt.u64, Flt.i64, E.den, Bi.den, Un.den, w32_eq, w64_eq, b2i_ne, b2i_z, beq_eq_false_iff_ne, ne_eq, beq_iff_eq, decide_eq_true_eq, decide_eq_false_iff_not, Bool.not_eq_true', decide_not, Decidable.not_not]
      simp [*]
  · intros
    have hop : u 0 = 176 ∨ u 0 = 177 := by omega
    rcases hop with hop | hop
    · have e1 : selF cvL (.lit 0) 176 = cutV cn64 cx64 (-9223372036854775808) 9223372036854775808 Flt.i64 := rfl
      have e2 : selF cvEL (.lit 600) 176 = cutE cn64 cx64 (-9223372036854775808) 9223372036854775808 := rfl
      simp only [hop, e1, e2, cutV, cutE, cn32, cn64, cx32, cx64, cutT, bi, no, un, v, Flt.u32, Flt.u64, Flt.i64, E.den, Bi.den, Un.den, w32_eq, w64_eq, b2i_ne, b2i_z, beq_eq_false_iff_ne, ne_eq, beq_iff_eq, decide_eq_true_eq, decide_eq_false_iff_not, Bool.not_eq_true', decide_not, Decidable.not_not]
      simp [*]
    · have e1 : selF cvL (.lit 0) 177 = cutV cn64 cx64 0 18446744073709551616 Flt.i64 := rfl
      have e2 : selF cvEL (.lit 600) 177 = cutE cn64 cx64 0 18446744073709551616 := rfl
      simp only [hop, e1, e2, cutV, cutE, cn32, cn64, cx32, cx64, cutT, bi, no, un, v, Flt.u32, Flt.u64, Flt.i64, E.den, Bi.den, Un.den, w32_eq, w64_eq, b2i_ne, b2i_z, beq_eq_false_iff_ne, ne_eq, beq_iff_eq, decide_eq_true_eq, decide_eq_false_iff_not, Bool.not_eq_true', decide_not, Decidable.not_not]
      simp [*]
  · intros
    have hop : u 0 = 176 := by omega
    have hX := c64_ok (u 1) (by assumption)
    have F := cut_in hX.1 hX.2 ends_s64
    have e1 : selF cvL (.lit 0) 176 = cutV cn64 cx64 (-9223372036854775808) 9223372036854775808 Flt.i64 := rfl
    have e2 : selF cvEL (.lit 600) 176 = cutE cn64 cx64 (-9223372036854775808) 9223372036854775808 := rfl
    simp only [hop, e1, e2, cutV, cutE, cn32, cn64, cx32, cx64, cutT, bi, no, un, v, Flt.u32, Flt.u64, Flt.i64, E.den, Bi.den, Un.den, w32_eq, w64_eq, b2i_ne, b2i_z, beq_eq_false_iff_ne, ne_eq, beq_iff_eq, decide_eq_true_eq, decide_eq_false_iff_not, Bool.not_eq_true', decide_not, Decidable.not_not]
    clear e1 e2
    generalize hXX : W64 (u 1) = X at *
    rcases F.1 (by assumption) with c | c
    · refine ⟨?_, ?_⟩ <;> (repeat' split) <;> first | rfl | contradiction | omega | (exfalso; omega)
    · refine ⟨?_, ?_⟩ <;> (repeat' split) <;> first | rfl | contradiction | omega | (exfalso; omega)
  · intros
    have hop : u 0 = 176 := by omega
    have hX := c64_ok (u 1) (by assumption)
    have F := cut_in hX.1 hX.2 ends_s64
    have e1 : selF cvL (.lit 0) 176 = cutV cn64 cx64 (-9223372036854775808) 9223372036854775808 Flt.i64 := rfl
    have e2 : selF cvEL (.lit 600) 176 = cutE cn64 cx64 (-9223372036854775808) 9223372036854775808 := rfl
    simp only [hop, e1, e2, cutV, cutE, cn32, cn64, cx32, cx64, cutT, bi, no, un, v, Flt.u32, Flt.u64, Flt.i64, E.den, Bi.den, Un.den, w32_eq, w64_eq, b2i_ne, b2i_z, beq_eq_false_iff_ne, ne_eq, beq_iff_eq, decide_eq_true_eq, decide_eq_false_iff_not, Bool.not_eq_true', decide_not, Decidable.not_not]
    clear e1 e2
    generalize hXX : W64 (u 1) = X at *
    have c := F.2.1 (by assumption) (by assumption)
    refine ⟨?_, ?_⟩ <;> (repeat' split) <;> first | rfl | contradiction | omega | (exfalso; omega)
  · intros
    have hop : u 0 = 176 := by omega
    have hX := c64_ok (u 1) (by assumption)
    have F := cut_in hX.1 hX.2 ends_s64
    have e1 : selF cvL (.lit 0) 176 = cutV cn64 cx64 (-9223372036854775808) 9223372036854775808 Flt.i64 := rfl
    have e2 : selF cvEL (.lit 600) 176 = cutE cn64 cx64 (-9223372036854775808) 9223372036854775808 := rfl
    simp only [hop, e1, e2, cutV, cutE, cn32, cn64, cx32, cx64, cutT, bi, no, un, v, Flt.u32, Flt.u64, Flt.i64, E.den, Bi.den, Un.den, w32_eq, w64_eq, b2i_ne, b2i_z, beq_eq_false_iff_ne, ne_eq, beq_iff_eq, decide_eq_true_eq, decide_eq_false_iff_not, Bool.not_eq_true', decide_not, Decidable.not_not]
    clear e1 e2
    generalize hXX : W64 (u 1) = X at *
    obtain ⟨c1, c2, c3⟩ := F.2.2 (by assumption) (by assumption)
    rw [c3]
    rw [i64_id (by omega)]
    refine ⟨?_, ?_⟩ <;> (repeat' split) <;> first | rfl | contradiction | omega | (exfalso; omega)
  · intros
    have hop : u 0 = 176 := by omega
    have hX := c64_ok (u 1) (by assumption)
    have F := cut_in hX.1 hX.2 ends_s64
    have e1 : selF cvL (.lit 0) 176 = cutV cn64 cx64 (-9223372036854775808) 9223372036854775808 Flt.i64 := rfl
    have e2 : selF cvEL (.lit 600) 176 = cutE cn64 cx64 (-9223372036854775808) 9223372036854775808 := rfl
    simp only [hop, e1, e2, cutV, cutE, cn32, cn64, cx32, cx64, cutT, bi, no, un, v, Flt.u32, Flt.u64, Flt.i64, E.den, Bi.den, Un.den, w32_eq, w64_eq, b2i_ne, b2i_z, beq_eq_false_iff_ne, ne_eq, beq_iff_eq, decide_eq_true_eq, decide_eq_false_iff_not, Bool.not_eq_true', decide_not, Decidable.not_not]
    clear e1 e2
    generalize hXX : W64 (u 1) = X at *
    obtain ⟨c1, c2, c3⟩ := F.2.2 (by assumption) (by assumption)
    exfalso; rw [c3] at *; omega
  · intros
    have hop : u 0 = 177 := by omega
    have hX := c64_ok (u 1) (by assumption)
    have F := cut_in hX.1 hX.2 ends_u64
    have G := cut_63 hX.1 hX.2
    have e1 : selF cvL (.lit 0) 177 = cutV cn64 cx64 0 18446744073709551616 Flt.i64 := rfl
    have e2 : selF cvEL (.lit 600) 177 = cutE cn64 cx64 0 18446744073709551616 := rfl
    simp only [hop, e1, e2, cutV, cutE, cn32, cn64, cx32, cx64, cutT, bi, no, un, v, Flt.u32, Flt.u64, Flt.i64, E.den, Bi.den, Un.den, w32_eq, w64_eq, b2i_ne, b2i_z, beq_eq_false_iff_ne, ne_eq, beq_iff_eq, decide_eq_true_eq, decide_eq_false_iff_not, Bool.not_eq_true', decide_not, Decidable.not_not]
    clear e1 e2
    generalize hXX : W64 (u 1) = X at *
    rcases F.1 (by assumption) with c | c
    · refine ⟨?_, ?_⟩ <;> (repeat' split) <;> first | rfl | contradiction | omega | (exfalso; omega)
    · refine ⟨?_, ?_⟩ <;> (repeat' split) <;> first | rfl | contradiction | omega | (exfalso; omega)
  · intros
    have hop : u 0 = 177 := by omega
    have hX := c64_ok (u 1) (by assumption)
    have F := cut_in hX.1 hX.2 ends_u64
    have G := cut_63 hX.1 hX.2
    have e1 : selF cvL (.lit 0) 177 = cutV cn64 cx64 0 18446744073709551616 Flt.i64 := rfl
    have e2 : selF cvEL (.lit 600) 177 = cutE cn64 cx64 0 18446744073709551616 := rfl
    simp only [hop, e1, e2, cutV, cutE, cn32, cn64, cx32, cx64, cutT, bi, no, un, v, Flt.u32, Flt.u64, Flt.i64, E.den, Bi.den, Un.den, w32_eq, w64_eq, b2i_ne, b2i_z, beq_eq_false_iff_ne, ne_eq, beq_iff_eq, decide_eq_true_eq, decide_eq_false_iff_not, Bool.not_eq_true', decide_not, Decidable.not_not]
    clear e1 e2
    generalize hXX : W64 (u 1) = X at *
    have c := F.2.1 (by assumption) (by assumption)
    refine ⟨?_, ?_⟩ <;> (repeat' split) <;> first | rfl | contradiction | omega | (exfalso; omega)
  · intros
    have hop : u 0 = 177 := by omega
    have hX := c64_ok (u 1) (by assumption)
    have F := cut_in hX.1 hX.2 ends_u64
    have G := cut_63 hX.1 hX.2
    have e1 : selF cvL (.lit 0) 177 = cutV cn64 cx64 0 18446744073709551616 Flt.i64 := rfl
    have e2 : selF cvEL (.lit 600) 177 = cutE cn64 cx64 0 18446744073709551616 := rfl
    simp only [hop, e1, e2, cutV, cutE, cn32, cn64, cx32, cx64, cutT, bi, no, un, v, Flt.u32, Flt.u64, Flt.i64, E.den, Bi.den, Un.den, w32_eq, w64_eq, b2i_ne, b2i_z, beq_eq_false_iff_ne, ne_eq, beq_iff_eq, decide_eq_true_eq, decide_eq_false_iff_not, Bool.not_eq_true', decide_not, Decidable.not_not]
    clear e1 e2
    generalize hXX : W64 (u 1) = X at *
    obtain ⟨c1, c2, c3⟩ := F.2.2 (by assumption) (by assumption)
    have G2 := G (by assumption) (by assumption)
    have g := G2.1 (by assumption)
    rw [c3, i64_id (by omega)]
    refine ⟨?_, ?_⟩ <;> (repeat' split) <;> first | rfl | contradiction | omega | (exfalso; omega)
  · intros
    have hop : u 0 = 177 := by omega
    have hX := c64_ok (u 1) (by assumption)
    have F := cut_in hX.1 hX.2 ends_u64
    have G := cut_63 hX.1 hX.2
    have e1 : selF cvL (.lit 0) 177 = cutV cn64 cx64 0 18446744073709551616 Flt.i64 := rfl
    have e2 : selF cvEL (.lit 600) 177 = cutE cn64 cx64 0 18446744073709551616 := rfl
    simp only [hop, e1, e2, cutV, cutE, cn32, cn64, cx32, cx64, cutT, bi, no, un, v, Flt.u32, Flt.u64, Flt.i64, E.den, Bi.den, Un.den, w32_eq, w64_eq, b2i_ne, b2i_z, beq_eq_false_iff_ne, ne_eq, beq_iff_eq, decide_eq_true_eq, decide_eq_false_iff_not, Bool.not_eq_true', decide_not, Decidable.not_not]
    clear e1 e2
    generalize hXX : W64 (u 1) = X at *
    obtain ⟨c1, c2, c3⟩ := F.2.2 (by assumption) (by assumption)
    have G2 := G (by assumption) (by assumption)
    exfalso; have g := G2.1 (by assumption); rw [c3] at *; omega
  · intros
    have hop : u 0 = 177 := by omega
    have hX := c64_ok (u 1) (by assumption)
    have F := cut_in hX.1 hX.2 ends_u64
    have G := cut_63 hX.1 hX.2
    have e1 : selF cvL (.lit 0) 177 = cutV cn64 cx64 0 18446744073709551616 Flt.i64 := rfl
    have e2 : selF cvEL (.lit 600) 177 = cutE cn64 cx64 0 18446744073709551616 := rfl
    simp only [hop, e1, e2, cutV, cutE, cn32, cn64, cx32, cx64, cutT, bi, no, un, v, Flt.u32, Flt.u64, Flt.i64, E.den, Bi.den, Un.den, w32_eq, w64_eq, b2i_ne, b2i_z, beq_eq_false_iff_ne, ne_eq, beq_iff_eq, decide_eq_true_eq, decide_eq_false_iff_not, Bool.not_eq_true', decide_not, Decidable.not_not]
    clear e1 e2
    generalize hXX : W64 (u 1) = X at *
    obtain ⟨c1, c2, c3⟩ := F.2.2 (by assumption) (by assumption)
    have G2 := G (by assumption) (by assumption)
    obtain ⟨g1, g2, g3⟩ := G2.2 (by assumption)
    rw [g3, or63 (by omega), show ftruncI .f64 X - 9223372036854775808 + 9223372036854775808 = ftruncI .f64 X by omega]
    refine ⟨?_, ?_⟩ <;> (repeat' split) <;> first | rfl | contradiction | omega | (exfalso; omega)
  · intros
    have hop : u 0 = 177 := by omega
    have hX := c64_ok (u 1) (by assumption)
    have F := cut_in hX.1 hX.2 ends_u64
    have G := cut_63 hX.1 hX.2
    have e1 : selF cvL (.lit 0) 177 = cutV cn64 cx64 0 18446744073709551616 Flt.i64 := rfl
    have e2 : selF cvEL (.lit 600) 177 = cutE cn64 cx64 0 18446744073709551616 := rfl
    simp only [hop, e1, e2, cutV, cutE, cn32, cn64, cx32, cx64, cutT, bi, no, un, v, Flt.u32, Flt.u64, Flt.i64, E.den, Bi.den, Un.den, w32_eq, w64_eq, b2i_ne, b2i_z, beq_eq_false_iff_ne, ne_eq, beq_iff_eq, decide_eq_true_eq, decide_eq_false_iff_not, Bool.not_eq_true', decide_not, Decidable.not_not]
    clear e1 e2
    generalize hXX : W64 (u 1) = X at *
    obtain ⟨c1, c2, c3⟩ := F.2.2 (by assumption) (by assumption)
    have G2 := G (by assumption) (by assumption)
    exfalso; obtain ⟨g1, g2, g3⟩ := G2.2 (by assumption); rw [g3] at *; omega
  · intros
    have hop : u 0 = 177 := by omega
    have hX := c64_ok (u 1) (by assumption)
    have F := cut_in hX.1 hX.2 ends_u64
    have G := cut_63 hX.1 hX.2
    have e1 : selF cvL (.lit 0) 177 = cutV cn64 cx64 0 18446744073709551616 Flt.i64 := rfl
    have e2 : selF cvEL (.lit 600) 177 = cutE cn64 cx64 0 18446744073709551616 := rfl
    simp only [hop, e1, e2, cutV, cutE, cn32, cn64, cx32, cx64, cutT, bi, no, un, v, Flt.u32, Flt.u64, Flt.i64, E.den, Bi.den, Un.den, w32_eq, w64_eq, b2i_ne, b2i_z, beq_eq_false_iff_ne, ne_eq, beq_iff_eq, decide_eq_true_eq, decide_eq_false_iff_not, Bool.not_eq_true', decide_not, Decidable.not_not]
    clear e1 e2
    generalize hXX : W64 (u 1) = X at *
    obtain ⟨c1, c2, c3⟩ := F.2.2 (by assumption) (by assumption)
    have G2 := G (by assumption) (by assumption)
    exfalso; exact absurd (by assumption) (G2.2 (by assumption)).1
  · intros
    have hop : u 0 = 177 := by omega
    have hX := c64_ok (u 1) (by assumption)
    have F := cut_in hX.1 hX.2 ends_u64
    have G := cut_63 hX.1 hX.2
    have e1 : selF cvL (.lit 0) 177 = cutV cn64 cx64 0 18446744073709551616 Flt.i64 := rfl
    have e2 : selF cvEL (.lit 600) 177 = cutE cn64 cx64 0 18446744073709551616 := rfl
    simp only [hop, e1, e2, cutV, cutE, cn32, cn64, cx32, cx64, cutT, bi, no, un, v, Flt.u32, Flt.u64, Flt.i64, E.den, Bi.den, Un.den, w32_eq, w64_eq, b2i_ne, b2i_z, beq_eq_false_iff_ne, ne_eq, beq_iff_eq, decide_eq_true_eq, decide_eq_false_iff_not, Bool.not_eq_true', decide_not, Decidable.not_not]
    clear e1 e2
    generalize hXX : W64 (u 1) = X at *
    obtain ⟨c1, c2, c3⟩ := F.2.2 (by assumption) (by assumption)
    have G2 := G (by assumption) (by assumption)
    exfalso; exact absurd (by assumption) (G2.2 (by assumption)).1
  · intros
    exfalso; omega
end Go.Proofs.Ytnodelimomljbaa.PlainOpC
