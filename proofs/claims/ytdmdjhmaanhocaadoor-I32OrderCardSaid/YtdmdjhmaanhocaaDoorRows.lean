/-
  NARROWER THAN 'FOR EVERY INPUT', by the rows' own cells (each row's printed sentence says how): BitsAll: laid · BitsRules: laid · BitsPowers: laid · I64All: laid · I64Each: laid · I64Rules: laid · I64Ring: laid · I64Order: laid · I64Logic: laid · I64Shifts: laid · I64Counts: laid · I64Signs: laid · I32All: laid · I32Each: laid · I32Rules: laid · I32Ring: laid · I32Order: laid · I32Logic: laid · I32Shifts: laid · I32Counts: laid · I32Signs: laid.
  DERIVED. THE GIVEN ROWS OF THIS SEAT. 21 by the template 'for every input the law returns true; each argument reads behind the call as it read before'; 0 by the template 'total and deterministic' (their statements: YtdmdjhmaanhocaaDoorTotals.lean).
  GIVEN WITH THE SEED: the statements are not yours to turn. If you find one false, say at which input.
  Laid BY PROGRAM, IN A SANDBOX (cutbox-rows.mjs): the forced cells as the released guide's own fill.sh prints them over the translation 9c5a1df2d9b55788… (all of the seat's roots in one cut). By AI agents, Wed Nov 11 2026. No macro, syntax, notation, axiom, sorry.
-/
import Derived.Test.YtdmdjhmaanhocaaDoorChecked
import GoSem.Claim
import GoSem.ClaimJoined
import GoSem.ClaimMapViews
import Derived.JoinedTies
import Derived.KernelRfl
namespace Go.Proofs.YtdmdjhmaanhocaaDoor
/- THE CELL 'sum', in the pinned program and in every row, IS THE sha256 OF THE DUMP (.gsa) THAT YtdmdjhmaanhocaaDoorProg.lean LOADS. Nothing in Lean hashes anything: it is a label: what it is worth is what the hold of that sum in a sandbox is worth. -/
noncomputable def Tryd.pinned : Pinned := { name := "ytdmdjhmaanhocaadoor", sum := "9c5a1df2d9b557883164941be6468f58d9ae7071b728663b87a65f9d260b1d76", checked := Tryd.checked }
namespace Rows
def none {H : Type} : Left H := { results := [], args := [] }

/- WHAT THE LISTED PACKAGE-LEVEL VARIABLES READ AS WHEN THE CALL BEGINS. Each datum BY PROGRAM (the guide's laid-datum.mjs) off the statement by which the dump's own 'gosem.cut.vars' lays the variable. In a bare row this is a premise. The card (YtdmdjhmaanhocaaDoorCards.lean) ties it to the program's text. -/
def laid_math_bits_deBruijn64tab {H : Type} : DataW H := .agg [.lit (.int .u8 0), .lit (.int .u8 1), .lit (.int .u8 56), .lit (.int .u8 2), .lit (.int .u8 57), .lit (.int .u8 49), .lit (.int .u8 28), .lit (.int .u8 3), .lit (.int .u8 61), .lit (.int .u8 58), .lit (.int .u8 42), .lit (.int .u8 50), .lit (.int .u8 38), .lit (.int .u8 29), .lit (.int .u8 17), .lit (.int .u8 4), .lit (.int .u8 62), .lit (.int .u8 47), .lit (.int .u8 59), .lit (.int .u8 36), .lit (.int .u8 45), .lit (.int .u8 43), .lit (.int .u8 51), .lit (.int .u8 22), .lit (.int .u8 53), .lit (.int .u8 39), .lit (.int .u8 33), .lit (.int .u8 30), .lit (.int .u8 24), .lit (.int .u8 18), .lit (.int .u8 12), .lit (.int .u8 5), .lit (.int .u8 63), .lit (.int .u8 55), .lit (.int .u8 48), .lit (.int .u8 27), .lit (.int .u8 60), .lit (.int .u8 41), .lit (.int .u8 37), .lit (.int .u8 16), .lit (.int .u8 46), .lit (.int .u8 35), .lit (.int .u8 44), .lit (.int .u8 21), .lit (.int .u8 52), .lit (.int .u8 32), .lit (.int .u8 23), .lit (.int .u8 11), .lit (.int .u8 54), .lit (.int .u8 26), .lit (.int .u8 40), .lit (.int .u8 15), .lit (.int .u8 34), .lit (.int .u8 20), .lit (.int .u8 31), .lit (.int .u8 10), .lit (.int .u8 25), .lit (.int .u8 14), .lit (.int .u8 19), .lit (.int .u8 9), .lit (.int .u8 13), .lit (.int .u8 8), .lit (.int .u8 7), .lit (.int .u8 6)]

/-- 'peloruslaw1.BitsAll': WHATEVER THE INPUT: true; the input reads as it did. -/
def bitsAllSpec : ChangeSpec := { name := "bitsAll", fn := fun _ => fun
  | [d1, d2, d3, d4] => { results := [.lit (.bool true)], args := [d1, d2, d3, d4] }
  | _ => none }
def bitsAllRow : OpenClaim := { program := "ytdmdjhmaanhocaadoor", sum := "9c5a1df2d9b557883164941be6468f58d9ae7071b728663b87a65f9d260b1d76", func := "pelorus/peloruslaw1.BitsAll", spec := "bitsAll", named := ["math/bits.deBruijn64tab"], apart := false, laid := [("math/bits.deBruijn64tab", laid_math_bits_deBruijn64tab)] }
def BitsAllSaid : Prop := bitsAllRow.holds Tryd.pinned (OpenSpec.ofChange bitsAllSpec)

/-- ITS FALSE NEIGHBOUR: 'it returns false'. Refute it at one input. -/
def bitsAllWrong : ChangeSpec := { name := "bitsAll", fn := fun _ => fun
  | [d1, d2, d3, d4] => { results := [.lit (.bool false)], args := [d1, d2, d3, d4] }
  | _ => none }
def BitsAllWrongFalsely : Prop := bitsAllRow.holds Tryd.pinned (OpenSpec.ofChange bitsAllWrong)

/-- 'peloruslaw1.BitsRules': WHATEVER THE INPUT: true; the input reads as it did. -/
def bitsRulesSpec : ChangeSpec := { name := "bitsRules", fn := fun _ => fun
  | [d1, d2, d3] => { results := [.lit (.bool true)], args := [d1, d2, d3] }
  | _ => none }
def bitsRulesRow : OpenClaim := { program := "ytdmdjhmaanhocaadoor", sum := "9c5a1df2d9b557883164941be6468f58d9ae7071b728663b87a65f9d260b1d76", func := "pelorus/peloruslaw1.BitsRules", spec := "bitsRules", named := ["math/bits.deBruijn64tab"], apart := false, laid := [("math/bits.deBruijn64tab", laid_math_bits_deBruijn64tab)] }
def BitsRulesSaid : Prop := bitsRulesRow.holds Tryd.pinned (OpenSpec.ofChange bitsRulesSpec)

/-- ITS FALSE NEIGHBOUR: 'it returns false'. Refute it at one input. -/
def bitsRulesWrong : ChangeSpec := { name := "bitsRules", fn := fun _ => fun
  | [d1, d2, d3] => { results := [.lit (.bool false)], args := [d1, d2, d3] }
  | _ => none }
def BitsRulesWrongFalsely : Prop := bitsRulesRow.holds Tryd.pinned (OpenSpec.ofChange bitsRulesWrong)

/-- 'peloruslaw1.BitsPowers': WHATEVER THE INPUT: true; the input reads as it did. -/
def bitsPowersSpec : ChangeSpec := { name := "bitsPowers", fn := fun _ => fun
  | [d1, d2, d3] => { results := [.lit (.bool true)], args := [d1, d2, d3] }
  | _ => none }
def bitsPowersRow : OpenClaim := { program := "ytdmdjhmaanhocaadoor", sum := "9c5a1df2d9b557883164941be6468f58d9ae7071b728663b87a65f9d260b1d76", func := "pelorus/peloruslaw1.BitsPowers", spec := "bitsPowers", named := ["math/bits.deBruijn64tab"], apart := false, laid := [("math/bits.deBruijn64tab", laid_math_bits_deBruijn64tab)] }
def BitsPowersSaid : Prop := bitsPowersRow.holds Tryd.pinned (OpenSpec.ofChange bitsPowersSpec)

/-- ITS FALSE NEIGHBOUR: 'it returns false'. Refute it at one input. -/
def bitsPowersWrong : ChangeSpec := { name := "bitsPowers", fn := fun _ => fun
  | [d1, d2, d3] => { results := [.lit (.bool false)], args := [d1, d2, d3] }
  | _ => none }
def BitsPowersWrongFalsely : Prop := bitsPowersRow.holds Tryd.pinned (OpenSpec.ofChange bitsPowersWrong)

/-- 'peloruslaw3.I64All': WHATEVER THE INPUT: true; the input reads as it did. -/
def i64AllSpec : ChangeSpec := { name := "i64All", fn := fun _ => fun
  | [d1, d2, d3] => { results := [.lit (.bool true)], args := [d1, d2, d3] }
  | _ => none }
def i64AllRow : OpenClaim := { program := "ytdmdjhmaanhocaadoor", sum := "9c5a1df2d9b557883164941be6468f58d9ae7071b728663b87a65f9d260b1d76", func := "pelorus/peloruslaw3.I64All", spec := "i64All", named := ["math/bits.deBruijn64tab"], apart := false, laid := [("math/bits.deBruijn64tab", laid_math_bits_deBruijn64tab)] }
def I64AllSaid : Prop := i64AllRow.holds Tryd.pinned (OpenSpec.ofChange i64AllSpec)

/-- ITS FALSE NEIGHBOUR: 'it returns false'. Refute it at one input. -/
def i64AllWrong : ChangeSpec := { name := "i64All", fn := fun _ => fun
  | [d1, d2, d3] => { results := [.lit (.bool false)], args := [d1, d2, d3] }
  | _ => none }
def I64AllWrongFalsely : Prop := i64AllRow.holds Tryd.pinned (OpenSpec.ofChange i64AllWrong)

/-- 'peloruslaw3.I64Each': WHATEVER THE INPUT: true; the input reads as it did. -/
def i64EachSpec : ChangeSpec := { name := "i64Each", fn := fun _ => fun
  | [d1, d2] => { results := [.lit (.bool true)], args := [d1, d2] }
  | _ => none }
def i64EachRow : OpenClaim := { program := "ytdmdjhmaanhocaadoor", sum := "9c5a1df2d9b557883164941be6468f58d9ae7071b728663b87a65f9d260b1d76", func := "pelorus/peloruslaw3.I64Each", spec := "i64Each", named := ["math/bits.deBruijn64tab"], apart := false, laid := [("math/bits.deBruijn64tab", laid_math_bits_deBruijn64tab)] }
def I64EachSaid : Prop := i64EachRow.holds Tryd.pinned (OpenSpec.ofChange i64EachSpec)

/-- ITS FALSE NEIGHBOUR: 'it returns false'. Refute it at one input. -/
def i64EachWrong : ChangeSpec := { name := "i64Each", fn := fun _ => fun
  | [d1, d2] => { results := [.lit (.bool false)], args := [d1, d2] }
  | _ => none }
def I64EachWrongFalsely : Prop := i64EachRow.holds Tryd.pinned (OpenSpec.ofChange i64EachWrong)

/-- 'peloruslaw3.I64Rules': WHATEVER THE INPUT: true; the input reads as it did. -/
def i64RulesSpec : ChangeSpec := { name := "i64Rules", fn := fun _ => fun
  | [d1, d2] => { results := [.lit (.bool true)], args := [d1, d2] }
  | _ => none }
def i64RulesRow : OpenClaim := { program := "ytdmdjhmaanhocaadoor", sum := "9c5a1df2d9b557883164941be6468f58d9ae7071b728663b87a65f9d260b1d76", func := "pelorus/peloruslaw3.I64Rules", spec := "i64Rules", named := ["math/bits.deBruijn64tab"], apart := false, laid := [("math/bits.deBruijn64tab", laid_math_bits_deBruijn64tab)] }
def I64RulesSaid : Prop := i64RulesRow.holds Tryd.pinned (OpenSpec.ofChange i64RulesSpec)

/-- ITS FALSE NEIGHBOUR: 'it returns false'. Refute it at one input. -/
def i64RulesWrong : ChangeSpec := { name := "i64Rules", fn := fun _ => fun
  | [d1, d2] => { results := [.lit (.bool false)], args := [d1, d2] }
  | _ => none }
def I64RulesWrongFalsely : Prop := i64RulesRow.holds Tryd.pinned (OpenSpec.ofChange i64RulesWrong)

/-- 'peloruslaw3.I64Ring': WHATEVER THE INPUT: true; the input reads as it did. -/
def i64RingSpec : ChangeSpec := { name := "i64Ring", fn := fun _ => fun
  | [d1, d2, d3] => { results := [.lit (.bool true)], args := [d1, d2, d3] }
  | _ => none }
def i64RingRow : OpenClaim := { program := "ytdmdjhmaanhocaadoor", sum := "9c5a1df2d9b557883164941be6468f58d9ae7071b728663b87a65f9d260b1d76", func := "pelorus/peloruslaw3.I64Ring", spec := "i64Ring", named := ["math/bits.deBruijn64tab"], apart := false, laid := [("math/bits.deBruijn64tab", laid_math_bits_deBruijn64tab)] }
def I64RingSaid : Prop := i64RingRow.holds Tryd.pinned (OpenSpec.ofChange i64RingSpec)

/-- ITS FALSE NEIGHBOUR: 'it returns false'. Refute it at one input. -/
def i64RingWrong : ChangeSpec := { name := "i64Ring", fn := fun _ => fun
  | [d1, d2, d3] => { results := [.lit (.bool false)], args := [d1, d2, d3] }
  | _ => none }
def I64RingWrongFalsely : Prop := i64RingRow.holds Tryd.pinned (OpenSpec.ofChange i64RingWrong)

/-- 'peloruslaw3.I64Order': WHATEVER THE INPUT: true; the input reads as it did. -/
def i64OrderSpec : ChangeSpec := { name := "i64Order", fn := fun _ => fun
  | [d1, d2] => { results := [.lit (.bool true)], args := [d1, d2] }
  | _ => none }
def i64OrderRow : OpenClaim := { program := "ytdmdjhmaanhocaadoor", sum := "9c5a1df2d9b557883164941be6468f58d9ae7071b728663b87a65f9d260b1d76", func := "pelorus/peloruslaw3.I64Order", spec := "i64Order", named := ["math/bits.deBruijn64tab"], apart := false, laid := [("math/bits.deBruijn64tab", laid_math_bits_deBruijn64tab)] }
def I64OrderSaid : Prop := i64OrderRow.holds Tryd.pinned (OpenSpec.ofChange i64OrderSpec)

/-- ITS FALSE NEIGHBOUR: 'it returns false'. Refute it at one input. -/
def i64OrderWrong : ChangeSpec := { name := "i64Order", fn := fun _ => fun
  | [d1, d2] => { results := [.lit (.bool false)], args := [d1, d2] }
  | _ => none }
def I64OrderWrongFalsely : Prop := i64OrderRow.holds Tryd.pinned (OpenSpec.ofChange i64OrderWrong)

/-- 'peloruslaw3.I64Logic': WHATEVER THE INPUT: true; the input reads as it did. -/
def i64LogicSpec : ChangeSpec := { name := "i64Logic", fn := fun _ => fun
  | [d1, d2] => { results := [.lit (.bool true)], args := [d1, d2] }
  | _ => none }
def i64LogicRow : OpenClaim := { program := "ytdmdjhmaanhocaadoor", sum := "9c5a1df2d9b557883164941be6468f58d9ae7071b728663b87a65f9d260b1d76", func := "pelorus/peloruslaw3.I64Logic", spec := "i64Logic", named := ["math/bits.deBruijn64tab"], apart := false, laid := [("math/bits.deBruijn64tab", laid_math_bits_deBruijn64tab)] }
def I64LogicSaid : Prop := i64LogicRow.holds Tryd.pinned (OpenSpec.ofChange i64LogicSpec)

/-- ITS FALSE NEIGHBOUR: 'it returns false'. Refute it at one input. -/
def i64LogicWrong : ChangeSpec := { name := "i64Logic", fn := fun _ => fun
  | [d1, d2] => { results := [.lit (.bool false)], args := [d1, d2] }
  | _ => none }
def I64LogicWrongFalsely : Prop := i64LogicRow.holds Tryd.pinned (OpenSpec.ofChange i64LogicWrong)

/-- 'peloruslaw3.I64Shifts': WHATEVER THE INPUT: true; the input reads as it did. -/
def i64ShiftsSpec : ChangeSpec := { name := "i64Shifts", fn := fun _ => fun
  | [d1, d2, d3] => { results := [.lit (.bool true)], args := [d1, d2, d3] }
  | _ => none }
def i64ShiftsRow : OpenClaim := { program := "ytdmdjhmaanhocaadoor", sum := "9c5a1df2d9b557883164941be6468f58d9ae7071b728663b87a65f9d260b1d76", func := "pelorus/peloruslaw3.I64Shifts", spec := "i64Shifts", named := ["math/bits.deBruijn64tab"], apart := false, laid := [("math/bits.deBruijn64tab", laid_math_bits_deBruijn64tab)] }
def I64ShiftsSaid : Prop := i64ShiftsRow.holds Tryd.pinned (OpenSpec.ofChange i64ShiftsSpec)

/-- ITS FALSE NEIGHBOUR: 'it returns false'. Refute it at one input. -/
def i64ShiftsWrong : ChangeSpec := { name := "i64Shifts", fn := fun _ => fun
  | [d1, d2, d3] => { results := [.lit (.bool false)], args := [d1, d2, d3] }
  | _ => none }
def I64ShiftsWrongFalsely : Prop := i64ShiftsRow.holds Tryd.pinned (OpenSpec.ofChange i64ShiftsWrong)

/-- 'peloruslaw3.I64Counts': WHATEVER THE INPUT: true; the input reads as it did. -/
def i64CountsSpec : ChangeSpec := { name := "i64Counts", fn := fun _ => fun
  | [d1, d2] => { results := [.lit (.bool true)], args := [d1, d2] }
  | _ => none }
def i64CountsRow : OpenClaim := { program := "ytdmdjhmaanhocaadoor", sum := "9c5a1df2d9b557883164941be6468f58d9ae7071b728663b87a65f9d260b1d76", func := "pelorus/peloruslaw3.I64Counts", spec := "i64Counts", named := ["math/bits.deBruijn64tab"], apart := false, laid := [("math/bits.deBruijn64tab", laid_math_bits_deBruijn64tab)] }
def I64CountsSaid : Prop := i64CountsRow.holds Tryd.pinned (OpenSpec.ofChange i64CountsSpec)

/-- ITS FALSE NEIGHBOUR: 'it returns false'. Refute it at one input. -/
def i64CountsWrong : ChangeSpec := { name := "i64Counts", fn := fun _ => fun
  | [d1, d2] => { results := [.lit (.bool false)], args := [d1, d2] }
  | _ => none }
def I64CountsWrongFalsely : Prop := i64CountsRow.holds Tryd.pinned (OpenSpec.ofChange i64CountsWrong)

/-- 'peloruslaw3.I64Signs': WHATEVER THE INPUT: true; the input reads as it did. -/
def i64SignsSpec : ChangeSpec := { name := "i64Signs", fn := fun _ => fun
  | [d1, d2] => { results := [.lit (.bool true)], args := [d1, d2] }
  | _ => none }
def i64SignsRow : OpenClaim := { program := "ytdmdjhmaanhocaadoor", sum := "9c5a1df2d9b557883164941be6468f58d9ae7071b728663b87a65f9d260b1d76", func := "pelorus/peloruslaw3.I64Signs", spec := "i64Signs", named := ["math/bits.deBruijn64tab"], apart := false, laid := [("math/bits.deBruijn64tab", laid_math_bits_deBruijn64tab)] }
def I64SignsSaid : Prop := i64SignsRow.holds Tryd.pinned (OpenSpec.ofChange i64SignsSpec)

/-- ITS FALSE NEIGHBOUR: 'it returns false'. Refute it at one input. -/
def i64SignsWrong : ChangeSpec := { name := "i64Signs", fn := fun _ => fun
  | [d1, d2] => { results := [.lit (.bool false)], args := [d1, d2] }
  | _ => none }
def I64SignsWrongFalsely : Prop := i64SignsRow.holds Tryd.pinned (OpenSpec.ofChange i64SignsWrong)

/-- 'peloruslaw2.I32All': WHATEVER THE INPUT: true; the input reads as it did. -/
def i32AllSpec : ChangeSpec := { name := "i32All", fn := fun _ => fun
  | [d1, d2, d3] => { results := [.lit (.bool true)], args := [d1, d2, d3] }
  | _ => none }
def i32AllRow : OpenClaim := { program := "ytdmdjhmaanhocaadoor", sum := "9c5a1df2d9b557883164941be6468f58d9ae7071b728663b87a65f9d260b1d76", func := "pelorus/peloruslaw2.I32All", spec := "i32All", named := ["math/bits.deBruijn64tab"], apart := false, laid := [("math/bits.deBruijn64tab", laid_math_bits_deBruijn64tab)] }
def I32AllSaid : Prop := i32AllRow.holds Tryd.pinned (OpenSpec.ofChange i32AllSpec)

/-- ITS FALSE NEIGHBOUR: 'it returns false'. Refute it at one input. -/
def i32AllWrong : ChangeSpec := { name := "i32All", fn := fun _ => fun
  | [d1, d2, d3] => { results := [.lit (.bool false)], args := [d1, d2, d3] }
  | _ => none }
def I32AllWrongFalsely : Prop := i32AllRow.holds Tryd.pinned (OpenSpec.ofChange i32AllWrong)

/-- 'peloruslaw2.I32Each': WHATEVER THE INPUT: true; the input reads as it did. -/
def i32EachSpec : ChangeSpec := { name := "i32Each", fn := fun _ => fun
  | [d1, d2] => { results := [.lit (.bool true)], args := [d1, d2] }
  | _ => none }
def i32EachRow : OpenClaim := { program := "ytdmdjhmaanhocaadoor", sum := "9c5a1df2d9b557883164941be6468f58d9ae7071b728663b87a65f9d260b1d76", func := "pelorus/peloruslaw2.I32Each", spec := "i32Each", named := ["math/bits.deBruijn64tab"], apart := false, laid := [("math/bits.deBruijn64tab", laid_math_bits_deBruijn64tab)] }
def I32EachSaid : Prop := i32EachRow.holds Tryd.pinned (OpenSpec.ofChange i32EachSpec)

/-- ITS FALSE NEIGHBOUR: 'it returns false'. Refute it at one input. -/
def i32EachWrong : ChangeSpec := { name := "i32Each", fn := fun _ => fun
  | [d1, d2] => { results := [.lit (.bool false)], args := [d1, d2] }
  | _ => none }
def I32EachWrongFalsely : Prop := i32EachRow.holds Tryd.pinned (OpenSpec.ofChange i32EachWrong)

/-- 'peloruslaw2.I32Rules': WHATEVER THE INPUT: true; the input reads as it did. -/
def i32RulesSpec : ChangeSpec := { name := "i32Rules", fn := fun _ => fun
  | [d1, d2] => { results := [.lit (.bool true)], args := [d1, d2] }
  | _ => none }
def i32RulesRow : OpenClaim := { program := "ytdmdjhmaanhocaadoor", sum := "9c5a1df2d9b557883164941be6468f58d9ae7071b728663b87a65f9d260b1d76", func := "pelorus/peloruslaw2.I32Rules", spec := "i32Rules", named := ["math/bits.deBruijn64tab"], apart := false, laid := [("math/bits.deBruijn64tab", laid_math_bits_deBruijn64tab)] }
def I32RulesSaid : Prop := i32RulesRow.holds Tryd.pinned (OpenSpec.ofChange i32RulesSpec)

/-- ITS FALSE NEIGHBOUR: 'it returns false'. Refute it at one input. -/
def i32RulesWrong : ChangeSpec := { name := "i32Rules", fn := fun _ => fun
  | [d1, d2] => { results := [.lit (.bool false)], args := [d1, d2] }
  | _ => none }
def I32RulesWrongFalsely : Prop := i32RulesRow.holds Tryd.pinned (OpenSpec.ofChange i32RulesWrong)

/-- 'peloruslaw2.I32Ring': WHATEVER THE INPUT: true; the input reads as it did. -/
def i32RingSpec : ChangeSpec := { name := "i32Ring", fn := fun _ => fun
  | [d1, d2, d3] => { results := [.lit (.bool true)], args := [d1, d2, d3] }
  | _ => none }
def i32RingRow : OpenClaim := { program := "ytdmdjhmaanhocaadoor", sum := "9c5a1df2d9b557883164941be6468f58d9ae7071b728663b87a65f9d260b1d76", func := "pelorus/peloruslaw2.I32Ring", spec := "i32Ring", named := ["math/bits.deBruijn64tab"], apart := false, laid := [("math/bits.deBruijn64tab", laid_math_bits_deBruijn64tab)] }
def I32RingSaid : Prop := i32RingRow.holds Tryd.pinned (OpenSpec.ofChange i32RingSpec)

/-- ITS FALSE NEIGHBOUR: 'it returns false'. Refute it at one input. -/
def i32RingWrong : ChangeSpec := { name := "i32Ring", fn := fun _ => fun
  | [d1, d2, d3] => { results := [.lit (.bool false)], args := [d1, d2, d3] }
  | _ => none }
def I32RingWrongFalsely : Prop := i32RingRow.holds Tryd.pinned (OpenSpec.ofChange i32RingWrong)

/-- 'peloruslaw2.I32Order': WHATEVER THE INPUT: true; the input reads as it did. -/
def i32OrderSpec : ChangeSpec := { name := "i32Order", fn := fun _ => fun
  | [d1, d2] => { results := [.lit (.bool true)], args := [d1, d2] }
  | _ => none }
def i32OrderRow : OpenClaim := { program := "ytdmdjhmaanhocaadoor", sum := "9c5a1df2d9b557883164941be6468f58d9ae7071b728663b87a65f9d260b1d76", func := "pelorus/peloruslaw2.I32Order", spec := "i32Order", named := ["math/bits.deBruijn64tab"], apart := false, laid := [("math/bits.deBruijn64tab", laid_math_bits_deBruijn64tab)] }
def I32OrderSaid : Prop := i32OrderRow.holds Tryd.pinned (OpenSpec.ofChange i32OrderSpec)

/-- ITS FALSE NEIGHBOUR: 'it returns false'. Refute it at one input. -/
def i32OrderWrong : ChangeSpec := { name := "i32Order", fn := fun _ => fun
  | [d1, d2] => { results := [.lit (.bool false)], args := [d1, d2] }
  | _ => none }
def I32OrderWrongFalsely : Prop := i32OrderRow.holds Tryd.pinned (OpenSpec.ofChange i32OrderWrong)

/-- 'peloruslaw2.I32Logic': WHATEVER THE INPUT: true; the input reads as it did. -/
def i32LogicSpec : ChangeSpec := { name := "i32Logic", fn := fun _ => fun
  | [d1, d2] => { results := [.lit (.bool true)], args := [d1, d2] }
  | _ => none }
def i32LogicRow : OpenClaim := { program := "ytdmdjhmaanhocaadoor", sum := "9c5a1df2d9b557883164941be6468f58d9ae7071b728663b87a65f9d260b1d76", func := "pelorus/peloruslaw2.I32Logic", spec := "i32Logic", named := ["math/bits.deBruijn64tab"], apart := false, laid := [("math/bits.deBruijn64tab", laid_math_bits_deBruijn64tab)] }
def I32LogicSaid : Prop := i32LogicRow.holds Tryd.pinned (OpenSpec.ofChange i32LogicSpec)

/-- ITS FALSE NEIGHBOUR: 'it returns false'. Refute it at one input. -/
def i32LogicWrong : ChangeSpec := { name := "i32Logic", fn := fun _ => fun
  | [d1, d2] => { results := [.lit (.bool false)], args := [d1, d2] }
  | _ => none }
def I32LogicWrongFalsely : Prop := i32LogicRow.holds Tryd.pinned (OpenSpec.ofChange i32LogicWrong)

/-- 'peloruslaw2.I32Shifts': WHATEVER THE INPUT: true; the input reads as it did. -/
def i32ShiftsSpec : ChangeSpec := { name := "i32Shifts", fn := fun _ => fun
  | [d1, d2, d3] => { results := [.lit (.bool true)], args := [d1, d2, d3] }
  | _ => none }
def i32ShiftsRow : OpenClaim := { program := "ytdmdjhmaanhocaadoor", sum := "9c5a1df2d9b557883164941be6468f58d9ae7071b728663b87a65f9d260b1d76", func := "pelorus/peloruslaw2.I32Shifts", spec := "i32Shifts", named := ["math/bits.deBruijn64tab"], apart := false, laid := [("math/bits.deBruijn64tab", laid_math_bits_deBruijn64tab)] }
def I32ShiftsSaid : Prop := i32ShiftsRow.holds Tryd.pinned (OpenSpec.ofChange i32ShiftsSpec)

/-- ITS FALSE NEIGHBOUR: 'it returns false'. Refute it at one input. -/
def i32ShiftsWrong : ChangeSpec := { name := "i32Shifts", fn := fun _ => fun
  | [d1, d2, d3] => { results := [.lit (.bool false)], args := [d1, d2, d3] }
  | _ => none }
def I32ShiftsWrongFalsely : Prop := i32ShiftsRow.holds Tryd.pinned (OpenSpec.ofChange i32ShiftsWrong)

/-- 'peloruslaw2.I32Counts': WHATEVER THE INPUT: true; the input reads as it did. -/
def i32CountsSpec : ChangeSpec := { name := "i32Counts", fn := fun _ => fun
  | [d1, d2] => { results := [.lit (.bool true)], args := [d1, d2] }
  | _ => none }
def i32CountsRow : OpenClaim := { program := "ytdmdjhmaanhocaadoor", sum := "9c5a1df2d9b557883164941be6468f58d9ae7071b728663b87a65f9d260b1d76", func := "pelorus/peloruslaw2.I32Counts", spec := "i32Counts", named := ["math/bits.deBruijn64tab"], apart := false, laid := [("math/bits.deBruijn64tab", laid_math_bits_deBruijn64tab)] }
def I32CountsSaid : Prop := i32CountsRow.holds Tryd.pinned (OpenSpec.ofChange i32CountsSpec)

/-- ITS FALSE NEIGHBOUR: 'it returns false'. Refute it at one input. -/
def i32CountsWrong : ChangeSpec := { name := "i32Counts", fn := fun _ => fun
  | [d1, d2] => { results := [.lit (.bool false)], args := [d1, d2] }
  | _ => none }
def I32CountsWrongFalsely : Prop := i32CountsRow.holds Tryd.pinned (OpenSpec.ofChange i32CountsWrong)

/-- 'peloruslaw2.I32Signs': WHATEVER THE INPUT: true; the input reads as it did. -/
def i32SignsSpec : ChangeSpec := { name := "i32Signs", fn := fun _ => fun
  | [d1, d2] => { results := [.lit (.bool true)], args := [d1, d2] }
  | _ => none }
def i32SignsRow : OpenClaim := { program := "ytdmdjhmaanhocaadoor", sum := "9c5a1df2d9b557883164941be6468f58d9ae7071b728663b87a65f9d260b1d76", func := "pelorus/peloruslaw2.I32Signs", spec := "i32Signs", named := ["math/bits.deBruijn64tab"], apart := false, laid := [("math/bits.deBruijn64tab", laid_math_bits_deBruijn64tab)] }
def I32SignsSaid : Prop := i32SignsRow.holds Tryd.pinned (OpenSpec.ofChange i32SignsSpec)

/-- ITS FALSE NEIGHBOUR: 'it returns false'. Refute it at one input. -/
def i32SignsWrong : ChangeSpec := { name := "i32Signs", fn := fun _ => fun
  | [d1, d2] => { results := [.lit (.bool false)], args := [d1, d2] }
  | _ => none }
def I32SignsWrongFalsely : Prop := i32SignsRow.holds Tryd.pinned (OpenSpec.ofChange i32SignsWrong)

/- THE SECOND FORM. 'bulk': how many values and letters a reading holds, each counted each time it is reached (what is shared counts as often as it is met; a slice's spare places count too). A statement '..UptoSaid' is the law's where the arguments, and the package variables that the reading takes, are together of bulk at most 1048576: NARROWER than '..Said'. Prove '..Said' where nothing that the law and all that it calls make is longer than what came in: it says more and counts as full. Else prove '..UptoSaid'. A law counts once. -/
mutual
def uptoBulk {H : Type} : DataW H → Nat
  | .lit (.string bytes) => bytes.length + 1
  | .lit _ => 1
  | .nil => 1
  | .ptr d => uptoBulk d + 1
  | .slice elems spare => uptoBulkAll elems + uptoBulkAll spare + 1
  | .agg parts => uptoBulkAll parts + 1
  | .iface _ d => uptoBulk d + 1
  | .map entries => uptoBulkEntries entries + 1
  | .held _ => 1
def uptoBulkAll {H : Type} : List (DataW H) → Nat
  | [] => 0
  | d :: r => uptoBulk d + uptoBulkAll r
def uptoBulkEntries {H : Type} : List (Lit × DataW H) → Nat
  | [] => 0
  | x :: r => uptoBulkEntry x + uptoBulkEntries r
def uptoBulkEntry {H : Type} : Lit × DataW H → Nat
  | (.string bytes, d) => bytes.length + uptoBulk d + 1
  | (_, d) => uptoBulk d + 1
 end
def uptoSmall : (H : Type) → List (DataW H) → Bool := fun _ ds => decide (uptoBulkAll ds ≤ 1048576)
def OpenSpec.upto (s : _root_.Go.ChangeSpec) : _root_.Go.OpenSpec := { _root_.Go.OpenSpec.ofChange s with cond := some uptoSmall }

/-- 'peloruslaw1.BitsAll', WHERE WHAT IT READS IS OF BULK AT MOST 1048576: true; the input reads as it did. -/
def bitsAllUptoRow : OpenClaim := { program := "ytdmdjhmaanhocaadoor", sum := "9c5a1df2d9b557883164941be6468f58d9ae7071b728663b87a65f9d260b1d76", func := "pelorus/peloruslaw1.BitsAll", spec := "bitsAll", named := ["math/bits.deBruijn64tab"], apart := false, laid := [("math/bits.deBruijn64tab", laid_math_bits_deBruijn64tab)], narrowed := true }
def BitsAllUptoSaid : Prop := bitsAllUptoRow.holds Tryd.pinned (OpenSpec.upto bitsAllSpec)

/-- 'peloruslaw1.BitsRules', WHERE WHAT IT READS IS OF BULK AT MOST 1048576: true; the input reads as it did. -/
def bitsRulesUptoRow : OpenClaim := { program := "ytdmdjhmaanhocaadoor", sum := "9c5a1df2d9b557883164941be6468f58d9ae7071b728663b87a65f9d260b1d76", func := "pelorus/peloruslaw1.BitsRules", spec := "bitsRules", named := ["math/bits.deBruijn64tab"], apart := false, laid := [("math/bits.deBruijn64tab", laid_math_bits_deBruijn64tab)], narrowed := true }
def BitsRulesUptoSaid : Prop := bitsRulesUptoRow.holds Tryd.pinned (OpenSpec.upto bitsRulesSpec)

/-- 'peloruslaw1.BitsPowers', WHERE WHAT IT READS IS OF BULK AT MOST 1048576: true; the input reads as it did. -/
def bitsPowersUptoRow : OpenClaim := { program := "ytdmdjhmaanhocaadoor", sum := "9c5a1df2d9b557883164941be6468f58d9ae7071b728663b87a65f9d260b1d76", func := "pelorus/peloruslaw1.BitsPowers", spec := "bitsPowers", named := ["math/bits.deBruijn64tab"], apart := false, laid := [("math/bits.deBruijn64tab", laid_math_bits_deBruijn64tab)], narrowed := true }
def BitsPowersUptoSaid : Prop := bitsPowersUptoRow.holds Tryd.pinned (OpenSpec.upto bitsPowersSpec)

/-- 'peloruslaw3.I64All', WHERE WHAT IT READS IS OF BULK AT MOST 1048576: true; the input reads as it did. -/
def i64AllUptoRow : OpenClaim := { program := "ytdmdjhmaanhocaadoor", sum := "9c5a1df2d9b557883164941be6468f58d9ae7071b728663b87a65f9d260b1d76", func := "pelorus/peloruslaw3.I64All", spec := "i64All", named := ["math/bits.deBruijn64tab"], apart := false, laid := [("math/bits.deBruijn64tab", laid_math_bits_deBruijn64tab)], narrowed := true }
def I64AllUptoSaid : Prop := i64AllUptoRow.holds Tryd.pinned (OpenSpec.upto i64AllSpec)

/-- 'peloruslaw3.I64Each', WHERE WHAT IT READS IS OF BULK AT MOST 1048576: true; the input reads as it did. -/
def i64EachUptoRow : OpenClaim := { program := "ytdmdjhmaanhocaadoor", sum := "9c5a1df2d9b557883164941be6468f58d9ae7071b728663b87a65f9d260b1d76", func := "pelorus/peloruslaw3.I64Each", spec := "i64Each", named := ["math/bits.deBruijn64tab"], apart := false, laid := [("math/bits.deBruijn64tab", laid_math_bits_deBruijn64tab)], narrowed := true }
def I64EachUptoSaid : Prop := i64EachUptoRow.holds Tryd.pinned (OpenSpec.upto i64EachSpec)

/-- 'peloruslaw3.I64Rules', WHERE WHAT IT READS IS OF BULK AT MOST 1048576: true; the input reads as it did. -/
def i64RulesUptoRow : OpenClaim := { program := "ytdmdjhmaanhocaadoor", sum := "9c5a1df2d9b557883164941be6468f58d9ae7071b728663b87a65f9d260b1d76", func := "pelorus/peloruslaw3.I64Rules", spec := "i64Rules", named := ["math/bits.deBruijn64tab"], apart := false, laid := [("math/bits.deBruijn64tab", laid_math_bits_deBruijn64tab)], narrowed := true }
def I64RulesUptoSaid : Prop := i64RulesUptoRow.holds Tryd.pinned (OpenSpec.upto i64RulesSpec)

/-- 'peloruslaw3.I64Ring', WHERE WHAT IT READS IS OF BULK AT MOST 1048576: true; the input reads as it did. -/
def i64RingUptoRow : OpenClaim := { program := "ytdmdjhmaanhocaadoor", sum := "9c5a1df2d9b557883164941be6468f58d9ae7071b728663b87a65f9d260b1d76", func := "pelorus/peloruslaw3.I64Ring", spec := "i64Ring", named := ["math/bits.deBruijn64tab"], apart := false, laid := [("math/bits.deBruijn64tab", laid_math_bits_deBruijn64tab)], narrowed := true }
def I64RingUptoSaid : Prop := i64RingUptoRow.holds Tryd.pinned (OpenSpec.upto i64RingSpec)

/-- 'peloruslaw3.I64Order', WHERE WHAT IT READS IS OF BULK AT MOST 1048576: true; the input reads as it did. -/
def i64OrderUptoRow : OpenClaim := { program := "ytdmdjhmaanhocaadoor", sum := "9c5a1df2d9b557883164941be6468f58d9ae7071b728663b87a65f9d260b1d76", func := "pelorus/peloruslaw3.I64Order", spec := "i64Order", named := ["math/bits.deBruijn64tab"], apart := false, laid := [("math/bits.deBruijn64tab", laid_math_bits_deBruijn64tab)], narrowed := true }
def I64OrderUptoSaid : Prop := i64OrderUptoRow.holds Tryd.pinned (OpenSpec.upto i64OrderSpec)

/-- 'peloruslaw3.I64Logic', WHERE WHAT IT READS IS OF BULK AT MOST 1048576: true; the input reads as it did. -/
def i64LogicUptoRow : OpenClaim := { program := "ytdmdjhmaanhocaadoor", sum := "9c5a1df2d9b557883164941be6468f58d9ae7071b728663b87a65f9d260b1d76", func := "pelorus/peloruslaw3.I64Logic", spec := "i64Logic", named := ["math/bits.deBruijn64tab"], apart := false, laid := [("math/bits.deBruijn64tab", laid_math_bits_deBruijn64tab)], narrowed := true }
def I64LogicUptoSaid : Prop := i64LogicUptoRow.holds Tryd.pinned (OpenSpec.upto i64LogicSpec)

/-- 'peloruslaw3.I64Shifts', WHERE WHAT IT READS IS OF BULK AT MOST 1048576: true; the input reads as it did. -/
def i64ShiftsUptoRow : OpenClaim := { program := "ytdmdjhmaanhocaadoor", sum := "9c5a1df2d9b557883164941be6468f58d9ae7071b728663b87a65f9d260b1d76", func := "pelorus/peloruslaw3.I64Shifts", spec := "i64Shifts", named := ["math/bits.deBruijn64tab"], apart := false, laid := [("math/bits.deBruijn64tab", laid_math_bits_deBruijn64tab)], narrowed := true }
def I64ShiftsUptoSaid : Prop := i64ShiftsUptoRow.holds Tryd.pinned (OpenSpec.upto i64ShiftsSpec)

/-- 'peloruslaw3.I64Counts', WHERE WHAT IT READS IS OF BULK AT MOST 1048576: true; the input reads as it did. -/
def i64CountsUptoRow : OpenClaim := { program := "ytdmdjhmaanhocaadoor", sum := "9c5a1df2d9b557883164941be6468f58d9ae7071b728663b87a65f9d260b1d76", func := "pelorus/peloruslaw3.I64Counts", spec := "i64Counts", named := ["math/bits.deBruijn64tab"], apart := false, laid := [("math/bits.deBruijn64tab", laid_math_bits_deBruijn64tab)], narrowed := true }
def I64CountsUptoSaid : Prop := i64CountsUptoRow.holds Tryd.pinned (OpenSpec.upto i64CountsSpec)

/-- 'peloruslaw3.I64Signs', WHERE WHAT IT READS IS OF BULK AT MOST 1048576: true; the input reads as it did. -/
def i64SignsUptoRow : OpenClaim := { program := "ytdmdjhmaanhocaadoor", sum := "9c5a1df2d9b557883164941be6468f58d9ae7071b728663b87a65f9d260b1d76", func := "pelorus/peloruslaw3.I64Signs", spec := "i64Signs", named := ["math/bits.deBruijn64tab"], apart := false, laid := [("math/bits.deBruijn64tab", laid_math_bits_deBruijn64tab)], narrowed := true }
def I64SignsUptoSaid : Prop := i64SignsUptoRow.holds Tryd.pinned (OpenSpec.upto i64SignsSpec)

/-- 'peloruslaw2.I32All', WHERE WHAT IT READS IS OF BULK AT MOST 1048576: true; the input reads as it did. -/
def i32AllUptoRow : OpenClaim := { program := "ytdmdjhmaanhocaadoor", sum := "9c5a1df2d9b557883164941be6468f58d9ae7071b728663b87a65f9d260b1d76", func := "pelorus/peloruslaw2.I32All", spec := "i32All", named := ["math/bits.deBruijn64tab"], apart := false, laid := [("math/bits.deBruijn64tab", laid_math_bits_deBruijn64tab)], narrowed := true }
def I32AllUptoSaid : Prop := i32AllUptoRow.holds Tryd.pinned (OpenSpec.upto i32AllSpec)

/-- 'peloruslaw2.I32Each', WHERE WHAT IT READS IS OF BULK AT MOST 1048576: true; the input reads as it did. -/
def i32EachUptoRow : OpenClaim := { program := "ytdmdjhmaanhocaadoor", sum := "9c5a1df2d9b557883164941be6468f58d9ae7071b728663b87a65f9d260b1d76", func := "pelorus/peloruslaw2.I32Each", spec := "i32Each", named := ["math/bits.deBruijn64tab"], apart := false, laid := [("math/bits.deBruijn64tab", laid_math_bits_deBruijn64tab)], narrowed := true }
def I32EachUptoSaid : Prop := i32EachUptoRow.holds Tryd.pinned (OpenSpec.upto i32EachSpec)

/-- 'peloruslaw2.I32Rules', WHERE WHAT IT READS IS OF BULK AT MOST 1048576: true; the input reads as it did. -/
def i32RulesUptoRow : OpenClaim := { program := "ytdmdjhmaanhocaadoor", sum := "9c5a1df2d9b557883164941be6468f58d9ae7071b728663b87a65f9d260b1d76", func := "pelorus/peloruslaw2.I32Rules", spec := "i32Rules", named := ["math/bits.deBruijn64tab"], apart := false, laid := [("math/bits.deBruijn64tab", laid_math_bits_deBruijn64tab)], narrowed := true }
def I32RulesUptoSaid : Prop := i32RulesUptoRow.holds Tryd.pinned (OpenSpec.upto i32RulesSpec)

/-- 'peloruslaw2.I32Ring', WHERE WHAT IT READS IS OF BULK AT MOST 1048576: true; the input reads as it did. -/
def i32RingUptoRow : OpenClaim := { program := "ytdmdjhmaanhocaadoor", sum := "9c5a1df2d9b557883164941be6468f58d9ae7071b728663b87a65f9d260b1d76", func := "pelorus/peloruslaw2.I32Ring", spec := "i32Ring", named := ["math/bits.deBruijn64tab"], apart := false, laid := [("math/bits.deBruijn64tab", laid_math_bits_deBruijn64tab)], narrowed := true }
def I32RingUptoSaid : Prop := i32RingUptoRow.holds Tryd.pinned (OpenSpec.upto i32RingSpec)

/-- 'peloruslaw2.I32Order', WHERE WHAT IT READS IS OF BULK AT MOST 1048576: true; the input reads as it did. -/
def i32OrderUptoRow : OpenClaim := { program := "ytdmdjhmaanhocaadoor", sum := "9c5a1df2d9b557883164941be6468f58d9ae7071b728663b87a65f9d260b1d76", func := "pelorus/peloruslaw2.I32Order", spec := "i32Order", named := ["math/bits.deBruijn64tab"], apart := false, laid := [("math/bits.deBruijn64tab", laid_math_bits_deBruijn64tab)], narrowed := true }
def I32OrderUptoSaid : Prop := i32OrderUptoRow.holds Tryd.pinned (OpenSpec.upto i32OrderSpec)

/-- 'peloruslaw2.I32Logic', WHERE WHAT IT READS IS OF BULK AT MOST 1048576: true; the input reads as it did. -/
def i32LogicUptoRow : OpenClaim := { program := "ytdmdjhmaanhocaadoor", sum := "9c5a1df2d9b557883164941be6468f58d9ae7071b728663b87a65f9d260b1d76", func := "pelorus/peloruslaw2.I32Logic", spec := "i32Logic", named := ["math/bits.deBruijn64tab"], apart := false, laid := [("math/bits.deBruijn64tab", laid_math_bits_deBruijn64tab)], narrowed := true }
def I32LogicUptoSaid : Prop := i32LogicUptoRow.holds Tryd.pinned (OpenSpec.upto i32LogicSpec)

/-- 'peloruslaw2.I32Shifts', WHERE WHAT IT READS IS OF BULK AT MOST 1048576: true; the input reads as it did. -/
def i32ShiftsUptoRow : OpenClaim := { program := "ytdmdjhmaanhocaadoor", sum := "9c5a1df2d9b557883164941be6468f58d9ae7071b728663b87a65f9d260b1d76", func := "pelorus/peloruslaw2.I32Shifts", spec := "i32Shifts", named := ["math/bits.deBruijn64tab"], apart := false, laid := [("math/bits.deBruijn64tab", laid_math_bits_deBruijn64tab)], narrowed := true }
def I32ShiftsUptoSaid : Prop := i32ShiftsUptoRow.holds Tryd.pinned (OpenSpec.upto i32ShiftsSpec)

/-- 'peloruslaw2.I32Counts', WHERE WHAT IT READS IS OF BULK AT MOST 1048576: true; the input reads as it did. -/
def i32CountsUptoRow : OpenClaim := { program := "ytdmdjhmaanhocaadoor", sum := "9c5a1df2d9b557883164941be6468f58d9ae7071b728663b87a65f9d260b1d76", func := "pelorus/peloruslaw2.I32Counts", spec := "i32Counts", named := ["math/bits.deBruijn64tab"], apart := false, laid := [("math/bits.deBruijn64tab", laid_math_bits_deBruijn64tab)], narrowed := true }
def I32CountsUptoSaid : Prop := i32CountsUptoRow.holds Tryd.pinned (OpenSpec.upto i32CountsSpec)

/-- 'peloruslaw2.I32Signs', WHERE WHAT IT READS IS OF BULK AT MOST 1048576: true; the input reads as it did. -/
def i32SignsUptoRow : OpenClaim := { program := "ytdmdjhmaanhocaadoor", sum := "9c5a1df2d9b557883164941be6468f58d9ae7071b728663b87a65f9d260b1d76", func := "pelorus/peloruslaw2.I32Signs", spec := "i32Signs", named := ["math/bits.deBruijn64tab"], apart := false, laid := [("math/bits.deBruijn64tab", laid_math_bits_deBruijn64tab)], narrowed := true }
def I32SignsUptoSaid : Prop := i32SignsUptoRow.holds Tryd.pinned (OpenSpec.upto i32SignsSpec)

end Rows
end Go.Proofs.YtdmdjhmaanhocaaDoor
