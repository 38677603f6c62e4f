/- What every row of the seat asks of the whole program, once. No condition. -/
import Derived.Test.YtjgobpmhdeancaaRows
import Derived.WalkKit
import Derived.ProofKit
import Derived.OpenShut
import Derived.JoinedOf
namespace Go.Proofs.Ytjgobpmhdeancaa.Base
open Go
theorem own : ownKnob Try.prog.godebug = none := by kernel_rfl
theorem laidOut : laidOutB Try.prog = true := by kernel_rfl
theorem mapsRow : mapsRowed Try.prog = true := by kernel_rfl
theorem stopsHeard : Try.prog.stopsHeard = true := by kernel_rfl
theorem mayEnter : Try.prog.mayEnter = true := by kernel_rfl
theorem plainKeys : Try.prog.plainKeys = Rows.memoryBackRow.plainKeys := by kernel_rfl
theorem lifts : Try.prog.liftsFinal = Rows.memoryBackRow.lifted := by kernel_rfl
theorem checked : Try.pinned.checked.prog = Try.prog := rfl
end Go.Proofs.Ytjgobpmhdeancaa.Base
