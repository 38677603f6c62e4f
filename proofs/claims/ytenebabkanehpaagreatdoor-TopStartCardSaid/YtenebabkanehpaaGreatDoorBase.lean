/- What every card of the seat asks besides: the listed variables in a first world; a value of two numbers as a parameter. No condition. -/
import Derived.Test.YtenebabkanehpaaGreatDoorRows
import Derived.WalkKit
import Derived.ProofKit
import Derived.OpenShut
import Derived.LaidMore
import Derived.Lay
import Derived.LaidOnce
import Derived.SevenTiedAt
import Derived.Stop.Joined
namespace Go.Proofs.YtenebabkanehpaaGreatDoor
open Go Go.ChangeShapes Go.WideShapes Go.ChangeAt Go.RowKit
theorem own : ownKnob Tryz.prog.godebug = none := by kernel_rfl
def laid : List (String × DataW Unit) := [("math/bits.deBruijn64tab", Rows.laid_math_bits_deBruijn64tab), ("unicode/utf8.acceptRanges", Rows.laid_unicode_utf8_acceptRanges), ("unicode/utf8.first", Rows.laid_unicode_utf8_first)]
theorem laid_met (os : Os) (args : Array Value) : laidMetH Tryz.prog laid ((World.laidAll Tryz.prog os laid).forCall (fun _ _ => 0) ⟨#[], args, []⟩).memory := by
  rw [MakeChecks.laidMetH_plain _ _ _ (by kernel_rfl)]
  exact laidMet_laidAll _ (by kernel_rfl) (by kernel_rfl)
section
variable {H : Type} {enc : TypeId × Value → H} {w : World} {base : Nat} {sp : Nat → Bool} {held : Bool}
set_option maxRecDepth 100000 in
theorem openVal {r : Reach} {b0 : Nat} {v : Value} {d : DataW H} {ps : List MemPlace} (hval : Value.okWide Tryz.prog w r b0 57 v) (hd : DataW.Trod enc Tryz.prog w base sp held 57 v d ps) :
    ∃ a b, v = .agg #[.int .i64 a, .int .i64 b] ∧ d = .agg [.lit (.int .i64 a), .lit (.int .i64 b)] ∧ ps = [] ∧ (Lit.int .i64 a).wf = true ∧ (Lit.int .i64 b).wf = true := by
  unfold Value.okWide at hval
  rw [Tryz.underlying57] at hval
  obtain ⟨cs, rfl, _, _⟩ := hval
  obtain ⟨fuel, hf⟩ := hd
  obtain ⟨y0, y1, n, hx, hl, h0, h1⟩ := trod_struct2 Tryz.underlying57 hf
  have c3 : Tryz.prog.cellsOf 3 = 1 := by kernel_rfl
  rw [c3] at h0 h1
  obtain ⟨a, e1, e2, w1⟩ := DataW.trod_int Tryz.underlying3 h0
  obtain ⟨b, e3, e4, w2⟩ := DataW.trod_int Tryz.underlying3 h1
  have c57 : Tryz.prog.cellsOf 57 = 2 := by kernel_rfl
  rw [c57] at hl
  have hcs : cs = #[.int .i64 a, .int .i64 b] := by
    apply Array.ext'
    simp only [Value.cells] at e1 e3 hl
    match hL : cs.toList, hl with
    | [x, y], _ =>
      rw [hL] at e1 e3
      simp at e1 e3
      rw [e1, e3]
  subst hcs
  rw [e2, e4] at hx
  simp only [Prod.mk.injEq] at hx
  exact ⟨a, b, rfl, hx.1, by simpa using hx.2, w1, w2⟩
set_option maxRecDepth 100000 in
theorem shutVal {a b : Int} (wa : (Lit.int .i64 a).wf = true) (wb : (Lit.int .i64 b).wf = true) : DataW.Trod enc Tryz.prog w base sp held 57 (.agg #[.int .i64 a, .int .i64 b]) (.agg [.lit (.int .i64 a), .lit (.int .i64 b)]) [] := by
  have c3 : Tryz.prog.cellsOf 3 = 1 := by kernel_rfl
  have c57 : Tryz.prog.cellsOf 57 = 2 := by kernel_rfl
  exact ⟨2, by simp [DataW.trod, Value.cells, Tryz.underlying57, Tryz.underlying3, c3, c57, wa, wb]⟩
end
end Go.Proofs.YtenebabkanehpaaGreatDoor
