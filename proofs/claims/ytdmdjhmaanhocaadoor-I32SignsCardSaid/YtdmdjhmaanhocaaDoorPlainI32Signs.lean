/- The law's ways, in numbers alone. No condition. -/
import Derived.Test.YtdmdjhmaanhocaaDoorRunI32Signs
import Derived.Test.YtdmdjhmaanhocaaDoorPlLaw
namespace Go.Proofs.YtdmdjhmaanhocaaDoor.PlainI32Signs
open Go Go.Sx Go.Proofs.YtdmdjhmaanhocaaDoor.RunI32Signs

theorem i32_wrap (n : Int) : IntKind.i32.wrap n = (n + 2147483648) % 4294967296 - 2147483648 := by
  simp [IntKind.wrap, IntKind.bits, IntKind.signed]; split <;> omega
theorem plain (u : Nat → Int) (_h : KindOk u 0 [some .i64, some .i64]) : Law ⟨u, fnT⟩ lawR := by
  simp only [lawR, Law, chain, E.prop, E.den, Bi.den, Un.den]
  have ex : IntKind.u32.wrap (u 0) = IntKind.i32.wrap (u 0) ∨ IntKind.u32.wrap (u 0) = IntKind.i32.wrap (u 0) + 4294967296 := by rw [u32_wrap, i32_wrap]; omega
  have ey : IntKind.u32.wrap (u 1) = IntKind.i32.wrap (u 1) ∨ IntKind.u32.wrap (u 1) = IntKind.i32.wrap (u 1) + 4294967296 := by rw [u32_wrap, i32_wrap]; omega
  have rx : 0 ≤ IntKind.u32.wrap (u 0) ∧ IntKind.u32.wrap (u 0) ≤ 4294967295 := by rw [u32_wrap]; omega
  have ry : 0 ≤ IntKind.u32.wrap (u 1) ∧ IntKind.u32.wrap (u 1) ≤ 4294967295 := by rw [u32_wrap]; omega
  have sx : -2147483648 ≤ IntKind.i32.wrap (u 0) ∧ IntKind.i32.wrap (u 0) ≤ 2147483647 := by rw [i32_wrap]; omega
  have sy : -2147483648 ≤ IntKind.i32.wrap (u 1) ∧ IntKind.i32.wrap (u 1) ≤ 2147483647 := by rw [i32_wrap]; omega
  generalize IntKind.u32.wrap (u 0) = x at *
  generalize IntKind.u32.wrap (u 1) = y at *
  generalize IntKind.i32.wrap (u 0) = p at *
  generalize IntKind.i32.wrap (u 1) = q at *
  have key : ∀ a b : Int, 0 ≤ a → 0 ≤ b → a.tdiv b = a / b := fun a b ha hb => Int.tdiv_eq_ediv_of_nonneg ha
  have pp : p ≤ 0 → q ≤ 0 → p.tdiv q = -p / -q := fun hx hy => by
    rw [← key (-p) (-q) (by omega) (by omega), Int.neg_tdiv, Int.tdiv_neg, Int.neg_neg]
  have pn : p ≤ 0 → 0 ≤ q → p.tdiv q = -(-p / q) := fun hx hy => by
    rw [← key (-p) q (by omega) (by omega), Int.neg_tdiv, Int.neg_neg]
  have np : 0 ≤ p → q ≤ 0 → p.tdiv q = -(p / -q) := fun hx hy => by
    rw [← key p (-q) (by omega) (by omega), Int.tdiv_neg, Int.neg_neg]
  have nx : p < 0 → IntKind.u32.wrap (0 - x) = -p := fun h => by rw [u32_wrap]; omega
  have ny : q < 0 → IntKind.u32.wrap (0 - y) = -q := fun h => by rw [u32_wrap]; omega
  have dle : ∀ a b : Int, 0 ≤ a → 0 < b → 0 ≤ a / b ∧ a / b ≤ a := fun a b ha hb => ⟨Int.ediv_nonneg ha (by omega), Int.ediv_le_self _ ha⟩
  have w64 : ∀ a : Int, 0 ≤ a → a ≤ 4294967295 → IntKind.i64.wrap a = a := fun a h1 h2 => i64_in (by omega) (by omega)
  have w32 : ∀ a : Int, 0 ≤ a → a ≤ 4294967295 → IntKind.u32.wrap a = a := fun a h1 h2 => by rw [u32_wrap]; omega
  have A : ¬ y = 0 → p < 0 → q < 0 → IntKind.u32.wrap (p.tdiv q) = IntKind.i64.wrap (IntKind.u32.wrap (0 - x) / IntKind.u32.wrap (0 - y)) := fun hy h1 h2 => by
    have h := dle (-p) (-q) (by omega) (by omega)
    rw [nx h1, ny h2, pp (by omega) (by omega), w64 _ h.1 (by omega), w32 _ h.1 (by omega)]
  have B : ¬ y = 0 → p < 0 → 0 ≤ q → IntKind.u32.wrap (p.tdiv q) = IntKind.u32.wrap (0 - IntKind.i64.wrap (IntKind.u32.wrap (0 - x) / y)) := fun hy h1 h2 => by
    have e : y = q := by omega
    have h := dle (-p) q (by omega) (by omega)
    rw [nx h1, e, pn (by omega) h2, w64 _ h.1 (by omega), Int.zero_sub]
  have C : ¬ y = 0 → 0 ≤ p → q < 0 → IntKind.u32.wrap (p.tdiv q) = IntKind.u32.wrap (0 - IntKind.i64.wrap (x / IntKind.u32.wrap (0 - y))) := fun hy h1 h2 => by
    have e : x = p := by omega
    have h := dle p (-q) (by omega) (by omega)
    rw [ny h2, e, np h1 (by omega), w64 _ h.1 (by omega), Int.zero_sub]
  have D : ¬ y = 0 → 0 ≤ p → 0 ≤ q → IntKind.u32.wrap (p.tdiv q) = IntKind.i64.wrap (x / y) := fun hy h1 h2 => by
    have e : x = p := by omega
    have e' : y = q := by omega
    have h := dle p q (by omega) (by omega)
    rw [e, e', key p q h1 h2, w64 _ h.1 (by omega), w32 _ h.1 (by omega)]
  refine ⟨by simp, by simp, fun a b _ c _ => A a (by omega) c, fun a b _ c _ => A a (by omega) c, fun a b _ c _ => B a (by omega) c, fun a b _ c _ => B a (by omega) c, fun a _ b c _ => A a b c, fun a _ b c _ => A a b c, fun a _ b c _ => B a b c, fun a _ b c _ => B a b c, fun a _ b c => C a b c, fun a _ b c => D a b c, trivial⟩
end Go.Proofs.YtdmdjhmaanhocaaDoor.PlainI32Signs
