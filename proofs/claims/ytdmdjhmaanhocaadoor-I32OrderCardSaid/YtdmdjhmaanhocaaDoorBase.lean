/- The listed table: what the row says of it gives what the runs ask of it. No condition beyond the row's own. -/
import Derived.Test.YtdmdjhmaanhocaaDoorRows
import Derived.Test.YtdmdjhmaanhocaaDoorCon
import Derived.WalkKit
import Derived.ProofKit
import Derived.LaidMore
import Derived.OpenShut
import Derived.Stop.Joined
namespace Go.Proofs.YtdmdjhmaanhocaaDoor
open Go Go.Sx Go.Sx.Door Go.ChangeShapes Go.WideShapes Go.ChangeAt Go.RowKit

theorem own : ownKnob Tryd.prog.godebug = none := by kernel_rfl
def laid1 : List (String × DataW Unit) := [("math/bits.deBruijn64tab", Rows.laid_math_bits_deBruijn64tab)]
theorem gTab : Tryd.prog.globalNamed "math/bits.deBruijn64tab" = some 0 := by kernel_rfl
theorem tTab : (Tryd.prog.globals[0]?).map (·.type) = some 53 := by kernel_rfl
theorem cells5 : Tryd.prog.cellsOf 5 = 1 := by kernel_rfl
theorem door_met (os : Os) (args : Array Value) : laidMetH Tryd.prog laid1 ((World.doorLaid Tryd.prog 400 os).forCall (fun _ _ => 0) ⟨#[], args, []⟩).memory :=
  laidMetH_of_parts3 (fuel := 8) (laidMet_of_run' 8 (by kernel_rfl) (by kernel_rfl)) (by kernel_rfl) (by kernel_rfl)
theorem laid_is : (Rows.laid_math_bits_deBruijn64tab : DataW Unit) = .agg (deB.map fun n : Nat => .lit (.int .u8 n)) := rfl
theorem tabsOk {W : World} (h : laidMetH Tryd.prog laid1 W) : TabsOk W tab := by
  rw [MakeChecks.laidMetH_plain _ _ _ (by kernel_rfl)] at h
  obtain ⟨ps, ⟨g0, t0, cs0, f0, p0, q0, hg0, ht0, hv0, hd0, _⟩, _, _⟩ := h
  obtain rfl := Option.some.inj (gTab.symm.trans hg0)
  obtain rfl := Option.some.inj (tTab.symm.trans ht0)
  rw [laid_is] at hd0
  obtain ⟨xs, m1, rfl, hx1, hlen, hn3, hel⟩ := DataW.trod_array Tryd.underlying53 hd0
  simp only [Prod.mk.injEq, DataW.agg.injEq] at hx1
  have key : ∀ (j x : Nat), deB[j]? = some x → W.cell? ⟨0, j, none⟩ = some (.int .u8 x) := fun j x hj => by
    have hl : j < 64 := by
      have := (List.getElem?_eq_some_iff.1 hj).1
      simpa [deB] using this
    have h0 := hel j hl
    rw [cells5, Nat.mul_one] at h0
    have hjx : j < xs.length := by omega
    rw [List.getElem?_eq_getElem hjx] at h0
    obtain ⟨k, e1, e2, _⟩ := DataW.trod_int Tryd.underlying5 h0
    have h1 := congrArg (fun l => l[j]?) hx1.1
    simp only [List.getElem?_map, hj, Option.map_some, List.getElem?_eq_getElem hjx, e2, Option.some.injEq, DataW.lit.injEq, Lit.int.injEq, true_and] at h1
    subst h1
    rw [World.var?_cell hg0 hv0 j, ← Array.getElem?_toList]
    have h2 := congrArg (fun l => l[0]?) e1
    simpa using h2
  intro p hp
  simp only [tab, List.mem_singleton] at hp
  subst hp
  refine ⟨?_, fun j x hj => key j x hj⟩
  have := key 0 0 rfl
  unfold World.cell? at this
  by_cases hs : 0 < W.heap.size
  · exact hs
  · rw [Array.getElem?_eq_none (by omega)] at this; simp at this
end Go.Proofs.YtdmdjhmaanhocaaDoor
