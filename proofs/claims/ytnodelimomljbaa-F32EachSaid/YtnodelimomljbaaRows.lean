/-
  No cell of these rows narrows 'for every input' (looked for: loops, veiled, ifaces, maps, wideKeys, modest, calm, conditions, laid).
  DERIVED. THE GIVEN ROWS OF THIS SEAT. 24 by the template 'for every input the law returns true; each argument reads behind the call as it read before'; 0 by the template 'total and deterministic' (their statements: YtnodelimomljbaaTotals.lean).
  GIVEN WITH THE SEED: the statements are not yours to turn. If you find one false, say at which input.
  Laid BY PROGRAM, IN A SANDBOX (cutbox-rows.mjs): the forced cells as the released guide's own fill.sh prints them over the translation b356ac54cf69aefd… (all of the seat's roots in one cut). By AI agents, Wed Nov 11 2026. No macro, syntax, notation, axiom, sorry.
-/
import Derived.Test.YtnodelimomljbaaChecked
import GoSem.Claim
import GoSem.ClaimJoined
import GoSem.ClaimMapViews
import Derived.JoinedTies
import Derived.KernelRfl
namespace Go.Proofs.Ytnodelimomljbaa
/- THE CELL 'sum', in the pinned program and in every row, IS THE sha256 OF THE DUMP (.gsa) THAT YtnodelimomljbaaProg.lean LOADS. Nothing in Lean hashes anything: it is a label: what it is worth is what the hold of that sum in a sandbox is worth. -/
noncomputable def Try.pinned : Pinned := { name := "ytnodelimomljbaa", sum := "b356ac54cf69aefd0bfb0bc9c3a4c1c1e3f6a6bbb52bae17bfaf79443fc0393f", checked := Try.checked }
namespace Rows
def none {H : Type} : Left H := { results := [], args := [] }

/-- 'peloruslaw6.ConvBack': WHATEVER THE INPUT: true; the input reads as it did. -/
def convBackSpec : ChangeSpec := { name := "convBack", fn := fun _ => fun
  | [d1, d2] => { results := [.lit (.bool true)], args := [d1, d2] }
  | _ => none }
def convBackRow : OpenClaim := { program := "ytnodelimomljbaa", sum := "b356ac54cf69aefd0bfb0bc9c3a4c1c1e3f6a6bbb52bae17bfaf79443fc0393f", func := "pelorus/peloruslaw6.ConvBack", spec := "convBack", inPlace := ["math.Float64frombits", "math.Float32frombits", "math.archTrunc", "math.Float64bits", "math.Float32bits"], apart := false }
def ConvBackSaid : Prop := convBackRow.holds Try.pinned (OpenSpec.ofChange convBackSpec)

/-- ITS FALSE NEIGHBOUR: 'it returns false'. Refute it at one input. -/
def convBackWrong : ChangeSpec := { name := "convBack", fn := fun _ => fun
  | [d1, d2] => { results := [.lit (.bool false)], args := [d1, d2] }
  | _ => none }
def ConvBackWrongFalsely : Prop := convBackRow.holds Try.pinned (OpenSpec.ofChange convBackWrong)

/-- 'peloruslaw6.ConvEnds': WHATEVER THE INPUT: true; the input reads as it did. -/
def convEndsSpec : ChangeSpec := { name := "convEnds", fn := fun _ => fun
  | [d1, d2] => { results := [.lit (.bool true)], args := [d1, d2] }
  | _ => none }
def convEndsRow : OpenClaim := { program := "ytnodelimomljbaa", sum := "b356ac54cf69aefd0bfb0bc9c3a4c1c1e3f6a6bbb52bae17bfaf79443fc0393f", func := "pelorus/peloruslaw6.ConvEnds", spec := "convEnds", inPlace := ["math.Float64frombits", "math.Float32frombits", "math.archTrunc", "math.Float64bits", "math.Float32bits"], apart := false }
def ConvEndsSaid : Prop := convEndsRow.holds Try.pinned (OpenSpec.ofChange convEndsSpec)

/-- ITS FALSE NEIGHBOUR: 'it returns false'. Refute it at one input. -/
def convEndsWrong : ChangeSpec := { name := "convEnds", fn := fun _ => fun
  | [d1, d2] => { results := [.lit (.bool false)], args := [d1, d2] }
  | _ => none }
def ConvEndsWrongFalsely : Prop := convEndsRow.holds Try.pinned (OpenSpec.ofChange convEndsWrong)

/-- 'peloruslaw6.ConvTruncs': WHATEVER THE INPUT: true; the input reads as it did. -/
def convTruncsSpec : ChangeSpec := { name := "convTruncs", fn := fun _ => fun
  | [d] => { results := [.lit (.bool true)], args := [d] }
  | _ => none }
def convTruncsRow : OpenClaim := { program := "ytnodelimomljbaa", sum := "b356ac54cf69aefd0bfb0bc9c3a4c1c1e3f6a6bbb52bae17bfaf79443fc0393f", func := "pelorus/peloruslaw6.ConvTruncs", spec := "convTruncs", inPlace := ["math.Float64frombits", "math.Float32frombits", "math.archTrunc", "math.Float64bits", "math.Float32bits"], apart := false }
def ConvTruncsSaid : Prop := convTruncsRow.holds Try.pinned (OpenSpec.ofChange convTruncsSpec)

/-- ITS FALSE NEIGHBOUR: 'it returns false'. Refute it at one input. -/
def convTruncsWrong : ChangeSpec := { name := "convTruncs", fn := fun _ => fun
  | [d] => { results := [.lit (.bool false)], args := [d] }
  | _ => none }
def ConvTruncsWrongFalsely : Prop := convTruncsRow.holds Try.pinned (OpenSpec.ofChange convTruncsWrong)

/-- 'peloruslaw6.ConvSteps': WHATEVER THE INPUT: true; the input reads as it did. -/
def convStepsSpec : ChangeSpec := { name := "convSteps", fn := fun _ => fun
  | [d1, d2] => { results := [.lit (.bool true)], args := [d1, d2] }
  | _ => none }
def convStepsRow : OpenClaim := { program := "ytnodelimomljbaa", sum := "b356ac54cf69aefd0bfb0bc9c3a4c1c1e3f6a6bbb52bae17bfaf79443fc0393f", func := "pelorus/peloruslaw6.ConvSteps", spec := "convSteps", inPlace := ["math.Float64frombits", "math.Float32frombits", "math.archTrunc", "math.Float64bits", "math.Float32bits"], apart := false }
def ConvStepsSaid : Prop := convStepsRow.holds Try.pinned (OpenSpec.ofChange convStepsSpec)

/-- ITS FALSE NEIGHBOUR: 'it returns false'. Refute it at one input. -/
def convStepsWrong : ChangeSpec := { name := "convSteps", fn := fun _ => fun
  | [d1, d2] => { results := [.lit (.bool false)], args := [d1, d2] }
  | _ => none }
def ConvStepsWrongFalsely : Prop := convStepsRow.holds Try.pinned (OpenSpec.ofChange convStepsWrong)

/-- 'peloruslaw5.F64All': WHATEVER THE INPUT: true; the input reads as it did. -/
def f64AllSpec : ChangeSpec := { name := "f64All", fn := fun _ => fun
  | [d1, d2, d3] => { results := [.lit (.bool true)], args := [d1, d2, d3] }
  | _ => none }
def f64AllRow : OpenClaim := { program := "ytnodelimomljbaa", sum := "b356ac54cf69aefd0bfb0bc9c3a4c1c1e3f6a6bbb52bae17bfaf79443fc0393f", func := "pelorus/peloruslaw5.F64All", spec := "f64All", inPlace := ["math.Float64frombits", "math.archCeil", "math.archFloor", "math.Float64bits", "math.archTrunc", "math.RoundToEven", "math.sqrt", "math.archMin", "math.archMax"], apart := false }
def F64AllSaid : Prop := f64AllRow.holds Try.pinned (OpenSpec.ofChange f64AllSpec)

/-- ITS FALSE NEIGHBOUR: 'it returns false'. Refute it at one input. -/
def f64AllWrong : ChangeSpec := { name := "f64All", fn := fun _ => fun
  | [d1, d2, d3] => { results := [.lit (.bool false)], args := [d1, d2, d3] }
  | _ => none }
def F64AllWrongFalsely : Prop := f64AllRow.holds Try.pinned (OpenSpec.ofChange f64AllWrong)

/-- 'peloruslaw5.F64Each': WHATEVER THE INPUT: true; the input reads as it did. -/
def f64EachSpec : ChangeSpec := { name := "f64Each", fn := fun _ => fun
  | [d1, d2] => { results := [.lit (.bool true)], args := [d1, d2] }
  | _ => none }
def f64EachRow : OpenClaim := { program := "ytnodelimomljbaa", sum := "b356ac54cf69aefd0bfb0bc9c3a4c1c1e3f6a6bbb52bae17bfaf79443fc0393f", func := "pelorus/peloruslaw5.F64Each", spec := "f64Each", inPlace := ["math.Float64frombits", "math.archMin", "math.Float64bits", "math.archMax", "math.archCeil", "math.archFloor", "math.archTrunc", "math.RoundToEven", "math.sqrt"], apart := false }
def F64EachSaid : Prop := f64EachRow.holds Try.pinned (OpenSpec.ofChange f64EachSpec)

/-- ITS FALSE NEIGHBOUR: 'it returns false'. Refute it at one input. -/
def f64EachWrong : ChangeSpec := { name := "f64Each", fn := fun _ => fun
  | [d1, d2] => { results := [.lit (.bool false)], args := [d1, d2] }
  | _ => none }
def F64EachWrongFalsely : Prop := f64EachRow.holds Try.pinned (OpenSpec.ofChange f64EachWrong)

/-- 'peloruslaw5.F64Rules': WHATEVER THE INPUT: true; the input reads as it did. -/
def f64RulesSpec : ChangeSpec := { name := "f64Rules", fn := fun _ => fun
  | [d1, d2] => { results := [.lit (.bool true)], args := [d1, d2] }
  | _ => none }
def f64RulesRow : OpenClaim := { program := "ytnodelimomljbaa", sum := "b356ac54cf69aefd0bfb0bc9c3a4c1c1e3f6a6bbb52bae17bfaf79443fc0393f", func := "pelorus/peloruslaw5.F64Rules", spec := "f64Rules", inPlace := ["math.Float64frombits", "math.archMin", "math.Float64bits", "math.archMax", "math.archCeil", "math.archFloor", "math.archTrunc", "math.RoundToEven", "math.sqrt"], apart := false }
def F64RulesSaid : Prop := f64RulesRow.holds Try.pinned (OpenSpec.ofChange f64RulesSpec)

/-- ITS FALSE NEIGHBOUR: 'it returns false'. Refute it at one input. -/
def f64RulesWrong : ChangeSpec := { name := "f64Rules", fn := fun _ => fun
  | [d1, d2] => { results := [.lit (.bool false)], args := [d1, d2] }
  | _ => none }
def F64RulesWrongFalsely : Prop := f64RulesRow.holds Try.pinned (OpenSpec.ofChange f64RulesWrong)

/-- 'peloruslaw5.F64Whole': WHATEVER THE INPUT: true; the input reads as it did. -/
def f64WholeSpec : ChangeSpec := { name := "f64Whole", fn := fun _ => fun
  | [d] => { results := [.lit (.bool true)], args := [d] }
  | _ => none }
def f64WholeRow : OpenClaim := { program := "ytnodelimomljbaa", sum := "b356ac54cf69aefd0bfb0bc9c3a4c1c1e3f6a6bbb52bae17bfaf79443fc0393f", func := "pelorus/peloruslaw5.F64Whole", spec := "f64Whole", inPlace := ["math.Float64frombits", "math.archMin", "math.Float64bits", "math.archMax", "math.archCeil", "math.archFloor", "math.archTrunc", "math.RoundToEven", "math.sqrt"], apart := false }
def F64WholeSaid : Prop := f64WholeRow.holds Try.pinned (OpenSpec.ofChange f64WholeSpec)

/-- ITS FALSE NEIGHBOUR: 'it returns false'. Refute it at one input. -/
def f64WholeWrong : ChangeSpec := { name := "f64Whole", fn := fun _ => fun
  | [d] => { results := [.lit (.bool false)], args := [d] }
  | _ => none }
def F64WholeWrongFalsely : Prop := f64WholeRow.holds Try.pinned (OpenSpec.ofChange f64WholeWrong)

/-- 'peloruslaw5.F64Order': WHATEVER THE INPUT: true; the input reads as it did. -/
def f64OrderSpec : ChangeSpec := { name := "f64Order", fn := fun _ => fun
  | [d1, d2] => { results := [.lit (.bool true)], args := [d1, d2] }
  | _ => none }
def f64OrderRow : OpenClaim := { program := "ytnodelimomljbaa", sum := "b356ac54cf69aefd0bfb0bc9c3a4c1c1e3f6a6bbb52bae17bfaf79443fc0393f", func := "pelorus/peloruslaw5.F64Order", spec := "f64Order", inPlace := ["math.Float64frombits", "math.archMin", "math.Float64bits", "math.archMax", "math.archCeil", "math.archFloor", "math.archTrunc", "math.RoundToEven", "math.sqrt"], apart := false }
def F64OrderSaid : Prop := f64OrderRow.holds Try.pinned (OpenSpec.ofChange f64OrderSpec)

/-- ITS FALSE NEIGHBOUR: 'it returns false'. Refute it at one input. -/
def f64OrderWrong : ChangeSpec := { name := "f64Order", fn := fun _ => fun
  | [d1, d2] => { results := [.lit (.bool false)], args := [d1, d2] }
  | _ => none }
def F64OrderWrongFalsely : Prop := f64OrderRow.holds Try.pinned (OpenSpec.ofChange f64OrderWrong)

/-- 'peloruslaw5.F64Signs': WHATEVER THE INPUT: true; the input reads as it did. -/
def f64SignsSpec : ChangeSpec := { name := "f64Signs", fn := fun _ => fun
  | [d1, d2] => { results := [.lit (.bool true)], args := [d1, d2] }
  | _ => none }
def f64SignsRow : OpenClaim := { program := "ytnodelimomljbaa", sum := "b356ac54cf69aefd0bfb0bc9c3a4c1c1e3f6a6bbb52bae17bfaf79443fc0393f", func := "pelorus/peloruslaw5.F64Signs", spec := "f64Signs", inPlace := ["math.Float64frombits", "math.archMin", "math.Float64bits", "math.archMax", "math.archCeil", "math.archFloor", "math.archTrunc", "math.RoundToEven", "math.sqrt"], apart := false }
def F64SignsSaid : Prop := f64SignsRow.holds Try.pinned (OpenSpec.ofChange f64SignsSpec)

/-- ITS FALSE NEIGHBOUR: 'it returns false'. Refute it at one input. -/
def f64SignsWrong : ChangeSpec := { name := "f64Signs", fn := fun _ => fun
  | [d1, d2] => { results := [.lit (.bool false)], args := [d1, d2] }
  | _ => none }
def F64SignsWrongFalsely : Prop := f64SignsRow.holds Try.pinned (OpenSpec.ofChange f64SignsWrong)

/-- 'peloruslaw5.F64Units': WHATEVER THE INPUT: true; the input reads as it did. -/
def f64UnitsSpec : ChangeSpec := { name := "f64Units", fn := fun _ => fun
  | [d] => { results := [.lit (.bool true)], args := [d] }
  | _ => none }
def f64UnitsRow : OpenClaim := { program := "ytnodelimomljbaa", sum := "b356ac54cf69aefd0bfb0bc9c3a4c1c1e3f6a6bbb52bae17bfaf79443fc0393f", func := "pelorus/peloruslaw5.F64Units", spec := "f64Units", inPlace := ["math.Float64frombits", "math.archMin", "math.Float64bits", "math.archMax", "math.archCeil", "math.archFloor", "math.archTrunc", "math.RoundToEven", "math.sqrt"], apart := false }
def F64UnitsSaid : Prop := f64UnitsRow.holds Try.pinned (OpenSpec.ofChange f64UnitsSpec)

/-- ITS FALSE NEIGHBOUR: 'it returns false'. Refute it at one input. -/
def f64UnitsWrong : ChangeSpec := { name := "f64Units", fn := fun _ => fun
  | [d] => { results := [.lit (.bool false)], args := [d] }
  | _ => none }
def F64UnitsWrongFalsely : Prop := f64UnitsRow.holds Try.pinned (OpenSpec.ofChange f64UnitsWrong)

/-- 'peloruslaw5.F64Extremes': WHATEVER THE INPUT: true; the input reads as it did. -/
def f64ExtremesSpec : ChangeSpec := { name := "f64Extremes", fn := fun _ => fun
  | [d1, d2] => { results := [.lit (.bool true)], args := [d1, d2] }
  | _ => none }
def f64ExtremesRow : OpenClaim := { program := "ytnodelimomljbaa", sum := "b356ac54cf69aefd0bfb0bc9c3a4c1c1e3f6a6bbb52bae17bfaf79443fc0393f", func := "pelorus/peloruslaw5.F64Extremes", spec := "f64Extremes", inPlace := ["math.Float64frombits", "math.archMin", "math.Float64bits", "math.archMax", "math.archCeil", "math.archFloor", "math.archTrunc", "math.RoundToEven", "math.sqrt"], apart := false }
def F64ExtremesSaid : Prop := f64ExtremesRow.holds Try.pinned (OpenSpec.ofChange f64ExtremesSpec)

/-- ITS FALSE NEIGHBOUR: 'it returns false'. Refute it at one input. -/
def f64ExtremesWrong : ChangeSpec := { name := "f64Extremes", fn := fun _ => fun
  | [d1, d2] => { results := [.lit (.bool false)], args := [d1, d2] }
  | _ => none }
def F64ExtremesWrongFalsely : Prop := f64ExtremesRow.holds Try.pinned (OpenSpec.ofChange f64ExtremesWrong)

/-- 'peloruslaw5.F64Roots': WHATEVER THE INPUT: true; the input reads as it did. -/
def f64RootsSpec : ChangeSpec := { name := "f64Roots", fn := fun _ => fun
  | [d] => { results := [.lit (.bool true)], args := [d] }
  | _ => none }
def f64RootsRow : OpenClaim := { program := "ytnodelimomljbaa", sum := "b356ac54cf69aefd0bfb0bc9c3a4c1c1e3f6a6bbb52bae17bfaf79443fc0393f", func := "pelorus/peloruslaw5.F64Roots", spec := "f64Roots", inPlace := ["math.Float64frombits", "math.archMin", "math.Float64bits", "math.archMax", "math.archCeil", "math.archFloor", "math.archTrunc", "math.RoundToEven", "math.sqrt"], apart := false }
def F64RootsSaid : Prop := f64RootsRow.holds Try.pinned (OpenSpec.ofChange f64RootsSpec)

/-- ITS FALSE NEIGHBOUR: 'it returns false'. Refute it at one input. -/
def f64RootsWrong : ChangeSpec := { name := "f64Roots", fn := fun _ => fun
  | [d] => { results := [.lit (.bool false)], args := [d] }
  | _ => none }
def F64RootsWrongFalsely : Prop := f64RootsRow.holds Try.pinned (OpenSpec.ofChange f64RootsWrong)

/-- 'peloruslaw5.F64Zeros': WHATEVER THE INPUT: true; the input reads as it did. -/
def f64ZerosSpec : ChangeSpec := { name := "f64Zeros", fn := fun _ => fun
  | [d1, d2, d3] => { results := [.lit (.bool true)], args := [d1, d2, d3] }
  | _ => none }
def f64ZerosRow : OpenClaim := { program := "ytnodelimomljbaa", sum := "b356ac54cf69aefd0bfb0bc9c3a4c1c1e3f6a6bbb52bae17bfaf79443fc0393f", func := "pelorus/peloruslaw5.F64Zeros", spec := "f64Zeros", inPlace := ["math.Float64frombits", "math.archMin", "math.Float64bits", "math.archMax", "math.archCeil", "math.archFloor", "math.archTrunc", "math.RoundToEven", "math.sqrt"], apart := false }
def F64ZerosSaid : Prop := f64ZerosRow.holds Try.pinned (OpenSpec.ofChange f64ZerosSpec)

/-- ITS FALSE NEIGHBOUR: 'it returns false'. Refute it at one input. -/
def f64ZerosWrong : ChangeSpec := { name := "f64Zeros", fn := fun _ => fun
  | [d1, d2, d3] => { results := [.lit (.bool false)], args := [d1, d2, d3] }
  | _ => none }
def F64ZerosWrongFalsely : Prop := f64ZerosRow.holds Try.pinned (OpenSpec.ofChange f64ZerosWrong)

/-- 'peloruslaw4.F32All': WHATEVER THE INPUT: true; the input reads as it did. -/
def f32AllSpec : ChangeSpec := { name := "f32All", fn := fun _ => fun
  | [d1, d2, d3] => { results := [.lit (.bool true)], args := [d1, d2, d3] }
  | _ => none }
def f32AllRow : OpenClaim := { program := "ytnodelimomljbaa", sum := "b356ac54cf69aefd0bfb0bc9c3a4c1c1e3f6a6bbb52bae17bfaf79443fc0393f", func := "pelorus/peloruslaw4.F32All", spec := "f32All", inPlace := ["math.Float32frombits", "math.archCeil", "math.archFloor", "math.Float64bits", "math.Float64frombits", "math.archTrunc", "math.Float32bits", "math.RoundToEven", "math.sqrt", "math.archMin", "math.archMax"], apart := false }
def F32AllSaid : Prop := f32AllRow.holds Try.pinned (OpenSpec.ofChange f32AllSpec)

/-- ITS FALSE NEIGHBOUR: 'it returns false'. Refute it at one input. -/
def f32AllWrong : ChangeSpec := { name := "f32All", fn := fun _ => fun
  | [d1, d2, d3] => { results := [.lit (.bool false)], args := [d1, d2, d3] }
  | _ => none }
def F32AllWrongFalsely : Prop := f32AllRow.holds Try.pinned (OpenSpec.ofChange f32AllWrong)

/-- 'peloruslaw4.F32Each': WHATEVER THE INPUT: true; the input reads as it did. -/
def f32EachSpec : ChangeSpec := { name := "f32Each", fn := fun _ => fun
  | [d1, d2] => { results := [.lit (.bool true)], args := [d1, d2] }
  | _ => none }
def f32EachRow : OpenClaim := { program := "ytnodelimomljbaa", sum := "b356ac54cf69aefd0bfb0bc9c3a4c1c1e3f6a6bbb52bae17bfaf79443fc0393f", func := "pelorus/peloruslaw4.F32Each", spec := "f32Each", inPlace := ["math.Float32frombits", "math.archMin", "math.Float64bits", "math.Float64frombits", "math.archMax", "math.Float32bits", "math.archCeil", "math.archFloor", "math.archTrunc", "math.RoundToEven", "math.sqrt"], apart := false }
def F32EachSaid : Prop := f32EachRow.holds Try.pinned (OpenSpec.ofChange f32EachSpec)

/-- ITS FALSE NEIGHBOUR: 'it returns false'. Refute it at one input. -/
def f32EachWrong : ChangeSpec := { name := "f32Each", fn := fun _ => fun
  | [d1, d2] => { results := [.lit (.bool false)], args := [d1, d2] }
  | _ => none }
def F32EachWrongFalsely : Prop := f32EachRow.holds Try.pinned (OpenSpec.ofChange f32EachWrong)

/-- 'peloruslaw4.F32Rules': WHATEVER THE INPUT: true; the input reads as it did. -/
def f32RulesSpec : ChangeSpec := { name := "f32Rules", fn := fun _ => fun
  | [d1, d2] => { results := [.lit (.bool true)], args := [d1, d2] }
  | _ => none }
def f32RulesRow : OpenClaim := { program := "ytnodelimomljbaa", sum := "b356ac54cf69aefd0bfb0bc9c3a4c1c1e3f6a6bbb52bae17bfaf79443fc0393f", func := "pelorus/peloruslaw4.F32Rules", spec := "f32Rules", inPlace := ["math.Float32frombits", "math.archMin", "math.Float64bits", "math.Float64frombits", "math.archMax", "math.Float32bits", "math.archCeil", "math.archFloor", "math.archTrunc", "math.RoundToEven", "math.sqrt"], apart := false }
def F32RulesSaid : Prop := f32RulesRow.holds Try.pinned (OpenSpec.ofChange f32RulesSpec)

/-- ITS FALSE NEIGHBOUR: 'it returns false'. Refute it at one input. -/
def f32RulesWrong : ChangeSpec := { name := "f32Rules", fn := fun _ => fun
  | [d1, d2] => { results := [.lit (.bool false)], args := [d1, d2] }
  | _ => none }
def F32RulesWrongFalsely : Prop := f32RulesRow.holds Try.pinned (OpenSpec.ofChange f32RulesWrong)

/-- 'peloruslaw4.F32Whole': WHATEVER THE INPUT: true; the input reads as it did. -/
def f32WholeSpec : ChangeSpec := { name := "f32Whole", fn := fun _ => fun
  | [d] => { results := [.lit (.bool true)], args := [d] }
  | _ => none }
def f32WholeRow : OpenClaim := { program := "ytnodelimomljbaa", sum := "b356ac54cf69aefd0bfb0bc9c3a4c1c1e3f6a6bbb52bae17bfaf79443fc0393f", func := "pelorus/peloruslaw4.F32Whole", spec := "f32Whole", inPlace := ["math.Float32frombits", "math.archMin", "math.Float64bits", "math.Float64frombits", "math.archMax", "math.Float32bits", "math.archCeil", "math.archFloor", "math.archTrunc", "math.RoundToEven", "math.sqrt"], apart := false }
def F32WholeSaid : Prop := f32WholeRow.holds Try.pinned (OpenSpec.ofChange f32WholeSpec)

/-- ITS FALSE NEIGHBOUR: 'it returns false'. Refute it at one input. -/
def f32WholeWrong : ChangeSpec := { name := "f32Whole", fn := fun _ => fun
  | [d] => { results := [.lit (.bool false)], args := [d] }
  | _ => none }
def F32WholeWrongFalsely : Prop := f32WholeRow.holds Try.pinned (OpenSpec.ofChange f32WholeWrong)

/-- 'peloruslaw4.F32Order': WHATEVER THE INPUT: true; the input reads as it did. -/
def f32OrderSpec : ChangeSpec := { name := "f32Order", fn := fun _ => fun
  | [d1, d2] => { results := [.lit (.bool true)], args := [d1, d2] }
  | _ => none }
def f32OrderRow : OpenClaim := { program := "ytnodelimomljbaa", sum := "b356ac54cf69aefd0bfb0bc9c3a4c1c1e3f6a6bbb52bae17bfaf79443fc0393f", func := "pelorus/peloruslaw4.F32Order", spec := "f32Order", inPlace := ["math.Float32frombits", "math.archMin", "math.Float64bits", "math.Float64frombits", "math.archMax", "math.Float32bits", "math.archCeil", "math.archFloor", "math.archTrunc", "math.RoundToEven", "math.sqrt"], apart := false }
def F32OrderSaid : Prop := f32OrderRow.holds Try.pinned (OpenSpec.ofChange f32OrderSpec)

/-- ITS FALSE NEIGHBOUR: 'it returns false'. Refute it at one input. -/
def f32OrderWrong : ChangeSpec := { name := "f32Order", fn := fun _ => fun
  | [d1, d2] => { results := [.lit (.bool false)], args := [d1, d2] }
  | _ => none }
def F32OrderWrongFalsely : Prop := f32OrderRow.holds Try.pinned (OpenSpec.ofChange f32OrderWrong)

/-- 'peloruslaw4.F32Signs': WHATEVER THE INPUT: true; the input reads as it did. -/
def f32SignsSpec : ChangeSpec := { name := "f32Signs", fn := fun _ => fun
  | [d1, d2] => { results := [.lit (.bool true)], args := [d1, d2] }
  | _ => none }
def f32SignsRow : OpenClaim := { program := "ytnodelimomljbaa", sum := "b356ac54cf69aefd0bfb0bc9c3a4c1c1e3f6a6bbb52bae17bfaf79443fc0393f", func := "pelorus/peloruslaw4.F32Signs", spec := "f32Signs", inPlace := ["math.Float32frombits", "math.archMin", "math.Float64bits", "math.Float64frombits", "math.archMax", "math.Float32bits", "math.archCeil", "math.archFloor", "math.archTrunc", "math.RoundToEven", "math.sqrt"], apart := false }
def F32SignsSaid : Prop := f32SignsRow.holds Try.pinned (OpenSpec.ofChange f32SignsSpec)

/-- ITS FALSE NEIGHBOUR: 'it returns false'. Refute it at one input. -/
def f32SignsWrong : ChangeSpec := { name := "f32Signs", fn := fun _ => fun
  | [d1, d2] => { results := [.lit (.bool false)], args := [d1, d2] }
  | _ => none }
def F32SignsWrongFalsely : Prop := f32SignsRow.holds Try.pinned (OpenSpec.ofChange f32SignsWrong)

/-- 'peloruslaw4.F32Units': WHATEVER THE INPUT: true; the input reads as it did. -/
def f32UnitsSpec : ChangeSpec := { name := "f32Units", fn := fun _ => fun
  | [d] => { results := [.lit (.bool true)], args := [d] }
  | _ => none }
def f32UnitsRow : OpenClaim := { program := "ytnodelimomljbaa", sum := "b356ac54cf69aefd0bfb0bc9c3a4c1c1e3f6a6bbb52bae17bfaf79443fc0393f", func := "pelorus/peloruslaw4.F32Units", spec := "f32Units", inPlace := ["math.Float32frombits", "math.archMin", "math.Float64bits", "math.Float64frombits", "math.archMax", "math.Float32bits", "math.archCeil", "math.archFloor", "math.archTrunc", "math.RoundToEven", "math.sqrt"], apart := false }
def F32UnitsSaid : Prop := f32UnitsRow.holds Try.pinned (OpenSpec.ofChange f32UnitsSpec)

/-- ITS FALSE NEIGHBOUR: 'it returns false'. Refute it at one input. -/
def f32UnitsWrong : ChangeSpec := { name := "f32Units", fn := fun _ => fun
  | [d] => { results := [.lit (.bool false)], args := [d] }
  | _ => none }
def F32UnitsWrongFalsely : Prop := f32UnitsRow.holds Try.pinned (OpenSpec.ofChange f32UnitsWrong)

/-- 'peloruslaw4.F32Extremes': WHATEVER THE INPUT: true; the input reads as it did. -/
def f32ExtremesSpec : ChangeSpec := { name := "f32Extremes", fn := fun _ => fun
  | [d1, d2] => { results := [.lit (.bool true)], args := [d1, d2] }
  | _ => none }
def f32ExtremesRow : OpenClaim := { program := "ytnodelimomljbaa", sum := "b356ac54cf69aefd0bfb0bc9c3a4c1c1e3f6a6bbb52bae17bfaf79443fc0393f", func := "pelorus/peloruslaw4.F32Extremes", spec := "f32Extremes", inPlace := ["math.Float32frombits", "math.archMin", "math.Float64bits", "math.Float64frombits", "math.archMax", "math.Float32bits", "math.archCeil", "math.archFloor", "math.archTrunc", "math.RoundToEven", "math.sqrt"], apart := false }
def F32ExtremesSaid : Prop := f32ExtremesRow.holds Try.pinned (OpenSpec.ofChange f32ExtremesSpec)

/-- ITS FALSE NEIGHBOUR: 'it returns false'. Refute it at one input. -/
def f32ExtremesWrong : ChangeSpec := { name := "f32Extremes", fn := fun _ => fun
  | [d1, d2] => { results := [.lit (.bool false)], args := [d1, d2] }
  | _ => none }
def F32ExtremesWrongFalsely : Prop := f32ExtremesRow.holds Try.pinned (OpenSpec.ofChange f32ExtremesWrong)

/-- 'peloruslaw4.F32Roots': WHATEVER THE INPUT: true; the input reads as it did. -/
def f32RootsSpec : ChangeSpec := { name := "f32Roots", fn := fun _ => fun
  | [d] => { results := [.lit (.bool true)], args := [d] }
  | _ => none }
def f32RootsRow : OpenClaim := { program := "ytnodelimomljbaa", sum := "b356ac54cf69aefd0bfb0bc9c3a4c1c1e3f6a6bbb52bae17bfaf79443fc0393f", func := "pelorus/peloruslaw4.F32Roots", spec := "f32Roots", inPlace := ["math.Float32frombits", "math.archMin", "math.Float64bits", "math.Float64frombits", "math.archMax", "math.Float32bits", "math.archCeil", "math.archFloor", "math.archTrunc", "math.RoundToEven", "math.sqrt"], apart := false }
def F32RootsSaid : Prop := f32RootsRow.holds Try.pinned (OpenSpec.ofChange f32RootsSpec)

/-- ITS FALSE NEIGHBOUR: 'it returns false'. Refute it at one input. -/
def f32RootsWrong : ChangeSpec := { name := "f32Roots", fn := fun _ => fun
  | [d] => { results := [.lit (.bool false)], args := [d] }
  | _ => none }
def F32RootsWrongFalsely : Prop := f32RootsRow.holds Try.pinned (OpenSpec.ofChange f32RootsWrong)

/-- 'peloruslaw4.F32Zeros': WHATEVER THE INPUT: true; the input reads as it did. -/
def f32ZerosSpec : ChangeSpec := { name := "f32Zeros", fn := fun _ => fun
  | [d1, d2, d3] => { results := [.lit (.bool true)], args := [d1, d2, d3] }
  | _ => none }
def f32ZerosRow : OpenClaim := { program := "ytnodelimomljbaa", sum := "b356ac54cf69aefd0bfb0bc9c3a4c1c1e3f6a6bbb52bae17bfaf79443fc0393f", func := "pelorus/peloruslaw4.F32Zeros", spec := "f32Zeros", inPlace := ["math.Float32frombits", "math.archMin", "math.Float64bits", "math.Float64frombits", "math.archMax", "math.Float32bits", "math.archCeil", "math.archFloor", "math.archTrunc", "math.RoundToEven", "math.sqrt"], apart := false }
def F32ZerosSaid : Prop := f32ZerosRow.holds Try.pinned (OpenSpec.ofChange f32ZerosSpec)

/-- ITS FALSE NEIGHBOUR: 'it returns false'. Refute it at one input. -/
def f32ZerosWrong : ChangeSpec := { name := "f32Zeros", fn := fun _ => fun
  | [d1, d2, d3] => { results := [.lit (.bool false)], args := [d1, d2, d3] }
  | _ => none }
def F32ZerosWrongFalsely : Prop := f32ZerosRow.holds Try.pinned (OpenSpec.ofChange f32ZerosWrong)

/- THE SECOND FORM. 'bulk': how many values and letters a reading holds, each counted each time it is reached (what is shared counts as often as it is met; a slice's spare places count too). A statement '..UptoSaid' is the law's where the arguments, and the package variables that the reading takes, are together of bulk at most 1048576: NARROWER than '..Said'. Prove '..Said' where nothing that the law and all that it calls make is longer than what came in: it says more and counts as full. Else prove '..UptoSaid'. A law counts once. -/
mutual
def uptoBulk {H : Type} : DataW H → Nat
  | .lit (.string bytes) => bytes.length + 1
  | .lit _ => 1
  | .nil => 1
  | .ptr d => uptoBulk d + 1
  | .slice elems spare => uptoBulkAll elems + uptoBulkAll spare + 1
  | .agg parts => uptoBulkAll parts + 1
  | .iface _ d => uptoBulk d + 1
  | .map entries => uptoBulkEntries entries + 1
  | .held _ => 1
def uptoBulkAll {H : Type} : List (DataW H) → Nat
  | [] => 0
  | d :: r => uptoBulk d + uptoBulkAll r
def uptoBulkEntries {H : Type} : List (Lit × DataW H) → Nat
  | [] => 0
  | x :: r => uptoBulkEntry x + uptoBulkEntries r
def uptoBulkEntry {H : Type} : Lit × DataW H → Nat
  | (.string bytes, d) => bytes.length + uptoBulk d + 1
  | (_, d) => uptoBulk d + 1
 end
def uptoSmall : (H : Type) → List (DataW H) → Bool := fun _ ds => decide (uptoBulkAll ds ≤ 1048576)
def OpenSpec.upto (s : _root_.Go.ChangeSpec) : _root_.Go.OpenSpec := { _root_.Go.OpenSpec.ofChange s with cond := some uptoSmall }

/-- 'peloruslaw6.ConvBack', WHERE WHAT IT READS IS OF BULK AT MOST 1048576: true; the input reads as it did. -/
def convBackUptoRow : OpenClaim := { program := "ytnodelimomljbaa", sum := "b356ac54cf69aefd0bfb0bc9c3a4c1c1e3f6a6bbb52bae17bfaf79443fc0393f", func := "pelorus/peloruslaw6.ConvBack", spec := "convBack", inPlace := ["math.Float64frombits", "math.Float32frombits", "math.archTrunc", "math.Float64bits", "math.Float32bits"], apart := false, narrowed := true }
def ConvBackUptoSaid : Prop := convBackUptoRow.holds Try.pinned (OpenSpec.upto convBackSpec)

/-- 'peloruslaw6.ConvEnds', WHERE WHAT IT READS IS OF BULK AT MOST 1048576: true; the input reads as it did. -/
def convEndsUptoRow : OpenClaim := { program := "ytnodelimomljbaa", sum := "b356ac54cf69aefd0bfb0bc9c3a4c1c1e3f6a6bbb52bae17bfaf79443fc0393f", func := "pelorus/peloruslaw6.ConvEnds", spec := "convEnds", inPlace := ["math.Float64frombits", "math.Float32frombits", "math.archTrunc", "math.Float64bits", "math.Float32bits"], apart := false, narrowed := true }
def ConvEndsUptoSaid : Prop := convEndsUptoRow.holds Try.pinned (OpenSpec.upto convEndsSpec)

/-- 'peloruslaw6.ConvTruncs', WHERE WHAT IT READS IS OF BULK AT MOST 1048576: true; the input reads as it did. -/
def convTruncsUptoRow : OpenClaim := { program := "ytnodelimomljbaa", sum := "b356ac54cf69aefd0bfb0bc9c3a4c1c1e3f6a6bbb52bae17bfaf79443fc0393f", func := "pelorus/peloruslaw6.ConvTruncs", spec := "convTruncs", inPlace := ["math.Float64frombits", "math.Float32frombits", "math.archTrunc", "math.Float64bits", "math.Float32bits"], apart := false, narrowed := true }
def ConvTruncsUptoSaid : Prop := convTruncsUptoRow.holds Try.pinned (OpenSpec.upto convTruncsSpec)

/-- 'peloruslaw6.ConvSteps', WHERE WHAT IT READS IS OF BULK AT MOST 1048576: true; the input reads as it did. -/
def convStepsUptoRow : OpenClaim := { program := "ytnodelimomljbaa", sum := "b356ac54cf69aefd0bfb0bc9c3a4c1c1e3f6a6bbb52bae17bfaf79443fc0393f", func := "pelorus/peloruslaw6.ConvSteps", spec := "convSteps", inPlace := ["math.Float64frombits", "math.Float32frombits", "math.archTrunc", "math.Float64bits", "math.Float32bits"], apart := false, narrowed := true }
def ConvStepsUptoSaid : Prop := convStepsUptoRow.holds Try.pinned (OpenSpec.upto convStepsSpec)

/-- 'peloruslaw5.F64All', WHERE WHAT IT READS IS OF BULK AT MOST 1048576: true; the input reads as it did. -/
def f64AllUptoRow : OpenClaim := { program := "ytnodelimomljbaa", sum := "b356ac54cf69aefd0bfb0bc9c3a4c1c1e3f6a6bbb52bae17bfaf79443fc0393f", func := "pelorus/peloruslaw5.F64All", spec := "f64All", inPlace := ["math.Float64frombits", "math.archCeil", "math.archFloor", "math.Float64bits", "math.archTrunc", "math.RoundToEven", "math.sqrt", "math.archMin", "math.archMax"], apart := false, narrowed := true }
def F64AllUptoSaid : Prop := f64AllUptoRow.holds Try.pinned (OpenSpec.upto f64AllSpec)

/-- 'peloruslaw5.F64Each', WHERE WHAT IT READS IS OF BULK AT MOST 1048576: true; the input reads as it did. -/
def f64EachUptoRow : OpenClaim := { program := "ytnodelimomljbaa", sum := "b356ac54cf69aefd0bfb0bc9c3a4c1c1e3f6a6bbb52bae17bfaf79443fc0393f", func := "pelorus/peloruslaw5.F64Each", spec := "f64Each", inPlace := ["math.Float64frombits", "math.archMin", "math.Float64bits", "math.archMax", "math.archCeil", "math.archFloor", "math.archTrunc", "math.RoundToEven", "math.sqrt"], apart := false, narrowed := true }
def F64EachUptoSaid : Prop := f64EachUptoRow.holds Try.pinned (OpenSpec.upto f64EachSpec)

/-- 'peloruslaw5.F64Rules', WHERE WHAT IT READS IS OF BULK AT MOST 1048576: true; the input reads as it did. -/
def f64RulesUptoRow : OpenClaim := { program := "ytnodelimomljbaa", sum := "b356ac54cf69aefd0bfb0bc9c3a4c1c1e3f6a6bbb52bae17bfaf79443fc0393f", func := "pelorus/peloruslaw5.F64Rules", spec := "f64Rules", inPlace := ["math.Float64frombits", "math.archMin", "math.Float64bits", "math.archMax", "math.archCeil", "math.archFloor", "math.archTrunc", "math.RoundToEven", "math.sqrt"], apart := false, narrowed := true }
def F64RulesUptoSaid : Prop := f64RulesUptoRow.holds Try.pinned (OpenSpec.upto f64RulesSpec)

/-- 'peloruslaw5.F64Whole', WHERE WHAT IT READS IS OF BULK AT MOST 1048576: true; the input reads as it did. -/
def f64WholeUptoRow : OpenClaim := { program := "ytnodelimomljbaa", sum := "b356ac54cf69aefd0bfb0bc9c3a4c1c1e3f6a6bbb52bae17bfaf79443fc0393f", func := "pelorus/peloruslaw5.F64Whole", spec := "f64Whole", inPlace := ["math.Float64frombits", "math.archMin", "math.Float64bits", "math.archMax", "math.archCeil", "math.archFloor", "math.archTrunc", "math.RoundToEven", "math.sqrt"], apart := false, narrowed := true }
def F64WholeUptoSaid : Prop := f64WholeUptoRow.holds Try.pinned (OpenSpec.upto f64WholeSpec)

/-- 'peloruslaw5.F64Order', WHERE WHAT IT READS IS OF BULK AT MOST 1048576: true; the input reads as it did. -/
def f64OrderUptoRow : OpenClaim := { program := "ytnodelimomljbaa", sum := "b356ac54cf69aefd0bfb0bc9c3a4c1c1e3f6a6bbb52bae17bfaf79443fc0393f", func := "pelorus/peloruslaw5.F64Order", spec := "f64Order", inPlace := ["math.Float64frombits", "math.archMin", "math.Float64bits", "math.archMax", "math.archCeil", "math.archFloor", "math.archTrunc", "math.RoundToEven", "math.sqrt"], apart := false, narrowed := true }
def F64OrderUptoSaid : Prop := f64OrderUptoRow.holds Try.pinned (OpenSpec.upto f64OrderSpec)

/-- 'peloruslaw5.F64Signs', WHERE WHAT IT READS IS OF BULK AT MOST 1048576: true; the input reads as it did. -/
def f64SignsUptoRow : OpenClaim := { program := "ytnodelimomljbaa", sum := "b356ac54cf69aefd0bfb0bc9c3a4c1c1e3f6a6bbb52bae17bfaf79443fc0393f", func := "pelorus/peloruslaw5.F64Signs", spec := "f64Signs", inPlace := ["math.Float64frombits", "math.archMin", "math.Float64bits", "math.archMax", "math.archCeil", "math.archFloor", "math.archTrunc", "math.RoundToEven", "math.sqrt"], apart := false, narrowed := true }
def F64SignsUptoSaid : Prop := f64SignsUptoRow.holds Try.pinned (OpenSpec.upto f64SignsSpec)

/-- 'peloruslaw5.F64Units', WHERE WHAT IT READS IS OF BULK AT MOST 1048576: true; the input reads as it did. -/
def f64UnitsUptoRow : OpenClaim := { program := "ytnodelimomljbaa", sum := "b356ac54cf69aefd0bfb0bc9c3a4c1c1e3f6a6bbb52bae17bfaf79443fc0393f", func := "pelorus/peloruslaw5.F64Units", spec := "f64Units", inPlace := ["math.Float64frombits", "math.archMin", "math.Float64bits", "math.archMax", "math.archCeil", "math.archFloor", "math.archTrunc", "math.RoundToEven", "math.sqrt"], apart := false, narrowed := true }
def F64UnitsUptoSaid : Prop := f64UnitsUptoRow.holds Try.pinned (OpenSpec.upto f64UnitsSpec)

/-- 'peloruslaw5.F64Extremes', WHERE WHAT IT READS IS OF BULK AT MOST 1048576: true; the input reads as it did. -/
def f64ExtremesUptoRow : OpenClaim := { program := "ytnodelimomljbaa", sum := "b356ac54cf69aefd0bfb0bc9c3a4c1c1e3f6a6bbb52bae17bfaf79443fc0393f", func := "pelorus/peloruslaw5.F64Extremes", spec := "f64Extremes", inPlace := ["math.Float64frombits", "math.archMin", "math.Float64bits", "math.archMax", "math.archCeil", "math.archFloor", "math.archTrunc", "math.RoundToEven", "math.sqrt"], apart := false, narrowed := true }
def F64ExtremesUptoSaid : Prop := f64ExtremesUptoRow.holds Try.pinned (OpenSpec.upto f64ExtremesSpec)

/-- 'peloruslaw5.F64Roots', WHERE WHAT IT READS IS OF BULK AT MOST 1048576: true; the input reads as it did. -/
def f64RootsUptoRow : OpenClaim := { program := "ytnodelimomljbaa", sum := "b356ac54cf69aefd0bfb0bc9c3a4c1c1e3f6a6bbb52bae17bfaf79443fc0393f", func := "pelorus/peloruslaw5.F64Roots", spec := "f64Roots", inPlace := ["math.Float64frombits", "math.archMin", "math.Float64bits", "math.archMax", "math.archCeil", "math.archFloor", "math.archTrunc", "math.RoundToEven", "math.sqrt"], apart := false, narrowed := true }
def F64RootsUptoSaid : Prop := f64RootsUptoRow.holds Try.pinned (OpenSpec.upto f64RootsSpec)

/-- 'peloruslaw5.F64Zeros', WHERE WHAT IT READS IS OF BULK AT MOST 1048576: true; the input reads as it did. -/
def f64ZerosUptoRow : OpenClaim := { program := "ytnodelimomljbaa", sum := "b356ac54cf69aefd0bfb0bc9c3a4c1c1e3f6a6bbb52bae17bfaf79443fc0393f", func := "pelorus/peloruslaw5.F64Zeros", spec := "f64Zeros", inPlace := ["math.Float64frombits", "math.archMin", "math.Float64bits", "math.archMax", "math.archCeil", "math.archFloor", "math.archTrunc", "math.RoundToEven", "math.sqrt"], apart := false, narrowed := true }
def F64ZerosUptoSaid : Prop := f64ZerosUptoRow.holds Try.pinned (OpenSpec.upto f64ZerosSpec)

/-- 'peloruslaw4.F32All', WHERE WHAT IT READS IS OF BULK AT MOST 1048576: true; the input reads as it did. -/
def f32AllUptoRow : OpenClaim := { program := "ytnodelimomljbaa", sum := "b356ac54cf69aefd0bfb0bc9c3a4c1c1e3f6a6bbb52bae17bfaf79443fc0393f", func := "pelorus/peloruslaw4.F32All", spec := "f32All", inPlace := ["math.Float32frombits", "math.archCeil", "math.archFloor", "math.Float64bits", "math.Float64frombits", "math.archTrunc", "math.Float32bits", "math.RoundToEven", "math.sqrt", "math.archMin", "math.archMax"], apart := false, narrowed := true }
def F32AllUptoSaid : Prop := f32AllUptoRow.holds Try.pinned (OpenSpec.upto f32AllSpec)

/-- 'peloruslaw4.F32Each', WHERE WHAT IT READS IS OF BULK AT MOST 1048576: true; the input reads as it did. -/
def f32EachUptoRow : OpenClaim := { program := "ytnodelimomljbaa", sum := "b356ac54cf69aefd0bfb0bc9c3a4c1c1e3f6a6bbb52bae17bfaf79443fc0393f", func := "pelorus/peloruslaw4.F32Each", spec := "f32Each", inPlace := ["math.Float32frombits", "math.archMin", "math.Float64bits", "math.Float64frombits", "math.archMax", "math.Float32bits", "math.archCeil", "math.archFloor", "math.archTrunc", "math.RoundToEven", "math.sqrt"], apart := false, narrowed := true }
def F32EachUptoSaid : Prop := f32EachUptoRow.holds Try.pinned (OpenSpec.upto f32EachSpec)

/-- 'peloruslaw4.F32Rules', WHERE WHAT IT READS IS OF BULK AT MOST 1048576: true; the input reads as it did. -/
def f32RulesUptoRow : OpenClaim := { program := "ytnodelimomljbaa", sum := "b356ac54cf69aefd0bfb0bc9c3a4c1c1e3f6a6bbb52bae17bfaf79443fc0393f", func := "pelorus/peloruslaw4.F32Rules", spec := "f32Rules", inPlace := ["math.Float32frombits", "math.archMin", "math.Float64bits", "math.Float64frombits", "math.archMax", "math.Float32bits", "math.archCeil", "math.archFloor", "math.archTrunc", "math.RoundToEven", "math.sqrt"], apart := false, narrowed := true }
def F32RulesUptoSaid : Prop := f32RulesUptoRow.holds Try.pinned (OpenSpec.upto f32RulesSpec)

/-- 'peloruslaw4.F32Whole', WHERE WHAT IT READS IS OF BULK AT MOST 1048576: true; the input reads as it did. -/
def f32WholeUptoRow : OpenClaim := { program := "ytnodelimomljbaa", sum := "b356ac54cf69aefd0bfb0bc9c3a4c1c1e3f6a6bbb52bae17bfaf79443fc0393f", func := "pelorus/peloruslaw4.F32Whole", spec := "f32Whole", inPlace := ["math.Float32frombits", "math.archMin", "math.Float64bits", "math.Float64frombits", "math.archMax", "math.Float32bits", "math.archCeil", "math.archFloor", "math.archTrunc", "math.RoundToEven", "math.sqrt"], apart := false, narrowed := true }
def F32WholeUptoSaid : Prop := f32WholeUptoRow.holds Try.pinned (OpenSpec.upto f32WholeSpec)

/-- 'peloruslaw4.F32Order', WHERE WHAT IT READS IS OF BULK AT MOST 1048576: true; the input reads as it did. -/
def f32OrderUptoRow : OpenClaim := { program := "ytnodelimomljbaa", sum := "b356ac54cf69aefd0bfb0bc9c3a4c1c1e3f6a6bbb52bae17bfaf79443fc0393f", func := "pelorus/peloruslaw4.F32Order", spec := "f32Order", inPlace := ["math.Float32frombits", "math.archMin", "math.Float64bits", "math.Float64frombits", "math.archMax", "math.Float32bits", "math.archCeil", "math.archFloor", "math.archTrunc", "math.RoundToEven", "math.sqrt"], apart := false, narrowed := true }
def F32OrderUptoSaid : Prop := f32OrderUptoRow.holds Try.pinned (OpenSpec.upto f32OrderSpec)

/-- 'peloruslaw4.F32Signs', WHERE WHAT IT READS IS OF BULK AT MOST 1048576: true; the input reads as it did. -/
def f32SignsUptoRow : OpenClaim := { program := "ytnodelimomljbaa", sum := "b356ac54cf69aefd0bfb0bc9c3a4c1c1e3f6a6bbb52bae17bfaf79443fc0393f", func := "pelorus/peloruslaw4.F32Signs", spec := "f32Signs", inPlace := ["math.Float32frombits", "math.archMin", "math.Float64bits", "math.Float64frombits", "math.archMax", "math.Float32bits", "math.archCeil", "math.archFloor", "math.archTrunc", "math.RoundToEven", "math.sqrt"], apart := false, narrowed := true }
def F32SignsUptoSaid : Prop := f32SignsUptoRow.holds Try.pinned (OpenSpec.upto f32SignsSpec)

/-- 'peloruslaw4.F32Units', WHERE WHAT IT READS IS OF BULK AT MOST 1048576: true; the input reads as it did. -/
def f32UnitsUptoRow : OpenClaim := { program := "ytnodelimomljbaa", sum := "b356ac54cf69aefd0bfb0bc9c3a4c1c1e3f6a6bbb52bae17bfaf79443fc0393f", func := "pelorus/peloruslaw4.F32Units", spec := "f32Units", inPlace := ["math.Float32frombits", "math.archMin", "math.Float64bits", "math.Float64frombits", "math.archMax", "math.Float32bits", "math.archCeil", "math.archFloor", "math.archTrunc", "math.RoundToEven", "math.sqrt"], apart := false, narrowed := true }
def F32UnitsUptoSaid : Prop := f32UnitsUptoRow.holds Try.pinned (OpenSpec.upto f32UnitsSpec)

/-- 'peloruslaw4.F32Extremes', WHERE WHAT IT READS IS OF BULK AT MOST 1048576: true; the input reads as it did. -/
def f32ExtremesUptoRow : OpenClaim := { program := "ytnodelimomljbaa", sum := "b356ac54cf69aefd0bfb0bc9c3a4c1c1e3f6a6bbb52bae17bfaf79443fc0393f", func := "pelorus/peloruslaw4.F32Extremes", spec := "f32Extremes", inPlace := ["math.Float32frombits", "math.archMin", "math.Float64bits", "math.Float64frombits", "math.archMax", "math.Float32bits", "math.archCeil", "math.archFloor", "math.archTrunc", "math.RoundToEven", "math.sqrt"], apart := false, narrowed := true }
def F32ExtremesUptoSaid : Prop := f32ExtremesUptoRow.holds Try.pinned (OpenSpec.upto f32ExtremesSpec)

/-- 'peloruslaw4.F32Roots', WHERE WHAT IT READS IS OF BULK AT MOST 1048576: true; the input reads as it did. -/
def f32RootsUptoRow : OpenClaim := { program := "ytnodelimomljbaa", sum := "b356ac54cf69aefd0bfb0bc9c3a4c1c1e3f6a6bbb52bae17bfaf79443fc0393f", func := "pelorus/peloruslaw4.F32Roots", spec := "f32Roots", inPlace := ["math.Float32frombits", "math.archMin", "math.Float64bits", "math.Float64frombits", "math.archMax", "math.Float32bits", "math.archCeil", "math.archFloor", "math.archTrunc", "math.RoundToEven", "math.sqrt"], apart := false, narrowed := true }
def F32RootsUptoSaid : Prop := f32RootsUptoRow.holds Try.pinned (OpenSpec.upto f32RootsSpec)

/-- 'peloruslaw4.F32Zeros', WHERE WHAT IT READS IS OF BULK AT MOST 1048576: true; the input reads as it did. -/
def f32ZerosUptoRow : OpenClaim := { program := "ytnodelimomljbaa", sum := "b356ac54cf69aefd0bfb0bc9c3a4c1c1e3f6a6bbb52bae17bfaf79443fc0393f", func := "pelorus/peloruslaw4.F32Zeros", spec := "f32Zeros", inPlace := ["math.Float32frombits", "math.archMin", "math.Float64bits", "math.Float64frombits", "math.archMax", "math.Float32bits", "math.archCeil", "math.archFloor", "math.archTrunc", "math.RoundToEven", "math.sqrt"], apart := false, narrowed := true }
def F32ZerosUptoSaid : Prop := f32ZerosUptoRow.holds Try.pinned (OpenSpec.upto f32ZerosSpec)

end Rows
end Go.Proofs.Ytnodelimomljbaa
