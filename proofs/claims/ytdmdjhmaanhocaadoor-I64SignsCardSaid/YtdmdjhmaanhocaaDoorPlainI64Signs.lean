/- The law's ways, in numbers alone. No condition. -/
import Derived.Test.YtdmdjhmaanhocaaDoorRunI64Signs
import Derived.Test.YtdmdjhmaanhocaaDoorPlLaw
namespace Go.Proofs.YtdmdjhmaanhocaaDoor.PlainI64Signs
open Go Go.Sx Go.Proofs.YtdmdjhmaanhocaaDoor.RunI64Signs

theorem plain (u : Nat → Int) (h : KindOk u 0 [some .i64, some .i64]) : Law ⟨u, fnT⟩ lawR := by
  simp only [lawR, Law, chain, E.prop, E.den, Bi.den, Un.den]
  obtain ⟨h1, h2⟩ := of_i64 h.1
  obtain ⟨h3, h4⟩ := of_i64 h.2.1
  generalize u 0 = x at *
  generalize u 1 = y at *
  have neg : ∀ a : Int, -9223372036854775808 ≤ a → a ≤ 0 → IntKind.u64.wrap (0 - a) = -a := fun a b c => by rw [u64_wrap]; omega
  have key : ∀ a b : Int, 0 ≤ a → 0 ≤ b → a.tdiv b = a / b := fun a b ha hb => Int.tdiv_eq_ediv_of_nonneg ha
  have w : ∀ q : Int, IntKind.i64.wrap (0 - IntKind.i64.wrap q) = IntKind.i64.wrap (-q) := fun q => by
    apply i64_eq; rw [i64_wrap]; omega
  have pp : x ≤ 0 → y ≤ 0 → x.tdiv y = -x / -y := fun hx hy => by
    rw [← key (-x) (-y) (by omega) (by omega), Int.neg_tdiv, Int.tdiv_neg, Int.neg_neg]
  have pn : x ≤ 0 → 0 ≤ y → x.tdiv y = -(-x / y) := fun hx hy => by
    rw [← key (-x) y (by omega) (by omega), Int.neg_tdiv, Int.neg_neg]
  have np : 0 ≤ x → y ≤ 0 → x.tdiv y = -(x / -y) := fun hx hy => by
    rw [← key x (-y) (by omega) (by omega), Int.tdiv_neg, Int.neg_neg]
  refine ⟨?_, ?_, ?_, ?_, ?_, ?_, ?_, ?_, ?_, ?_, trivial⟩
  · simp
  · simp
  · intro _ h0 _ h5 _
    rw [neg x h1 (by omega), neg y h3 (by omega), pp (by omega) (by omega)]
  · intro _ h0 _ h5 _
    rw [neg x h1 (by omega), neg y h3 (by omega), pp (by omega) (by omega)]
  · intro _ h0 _ h5 _
    rw [neg x h1 (by omega), w, pn (by omega) (by omega)]
  · intro _ h0 _ h5 _
    rw [neg x h1 (by omega), w, pn (by omega) (by omega)]
  · intro _ h0 h5 h6
    rw [neg y h3 (by omega), pp (by omega) (by omega), Int.zero_sub]
  · intro _ h0 h5 h6
    rw [w, pn (by omega) (by omega), Int.zero_sub]
  · intro _ h0 h5 h6
    rw [neg y h3 (by omega), w, np (by omega) (by omega)]
  · intro _ h0 h5 h6
    rw [key x y h5 h6]
end Go.Proofs.YtdmdjhmaanhocaaDoor.PlainI64Signs
