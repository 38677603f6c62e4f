/- The law ConvSteps in numbers alone. No condition. -/
import Derived.Test.YtnodelimomljbaaRunConvSteps
import Derived.Test.YtnodelimomljbaaPlFltI
namespace Go.Proofs.Ytnodelimomljbaa.PlainConvSteps
open Go Go.Sx Go.Sx.Flt Go.Proofs.Ytnodelimomljbaa.RunConvSteps
set_option linter.unusedSimpArgs false
set_option linter.unusedVariables false
theorem ops_ok (w : World) : OracleOk Try.prog ⟨w, fnF⟩ (xOracle xts) := xOracle_ok xtsOk
theorem plain (u : Nat → Int) (h : KindOk u 0 [some .i64, some .i64]) : Law ⟨u, fnF⟩ lawR := by
  have hw : 0 ≤ IntKind.u16.wrap (u 1) := (has_kind .u16 (u 1)).1 _ rfl
  have b : ∀ n : Nat, (n : Int) ≤ kI .f64 → IntKind.i64.wrap (n : Int) = n := fun n hn => by
    rw [kI64] at hn
    rw [i64_of ⟨by omega, by simp only [topF]; omega⟩, if_pos (by omega)]
  simp only [lawR, Law, chain, E.prop, E.den, Bi.den, Un.den, and_true]
  generalize IntKind.u16.wrap (u 1) = d at *
  have key : ∀ y : Int, 0 ≤ y → ((FloatKind.f32.nearest y : Nat) : Int) ≤ (FloatKind.f32.nearest (y + d) : Nat) ∧ IntKind.i64.wrap ((FloatKind.f64.nearest y : Nat) : Int) ≤ IntKind.i64.wrap ((FloatKind.f64.nearest (y + d) : Nat) : Int) ∧ 0 ≤ IntKind.i64.wrap ((FloatKind.f64.nearest y : Nat) : Int) := fun y hy => by
    have h1 := i2f_le .f32 hy (show y ≤ y + d by omega)
    have h2 := i2f_le .f64 hy (show y ≤ y + d by omega)
    have h3 := i2f_le .f64 hy (show y ≤ y by omega)
    rw [b _ h2.2, b _ h3.2]
    omega
  have k1 := fun hh : u 0 / 2 < 0 => key (0 - (u 0 / 2 + 1)) (by omega)
  have k2 := fun hh : 0 ≤ u 0 / 2 => key (u 0 / 2) hh
  refine ⟨?_, ?_, ?_, ?_, ?_, ?_, ?_, ?_⟩ <;> intros <;> first | trivial | (have := k1 (by assumption); omega) | (have := k2 (by assumption); omega) | (show (1 : Int) ≠ 0; decide)
end Go.Proofs.Ytnodelimomljbaa.PlainConvSteps
