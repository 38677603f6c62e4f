/-
  NARROWER THAN 'FOR EVERY INPUT', by the rows' own cells (each row's printed sentence says how): TopTable: laid · TopIndirect: laid · TopHost: laid · TopStart: laid · TopGcd: laid · TopFib: laid · TopCopy: laid.
  DERIVED. THE GIVEN ROWS OF THIS SEAT. 7 by the template 'for every input the law returns true; each argument reads behind the call as it read before'; 0 by the template 'total and deterministic' (their statements: YtenebabkanehpaaGreatDoorTotals.lean).
  GIVEN WITH THE SEED: the statements are not yours to turn. If you find one false, say at which input.
  Laid BY PROGRAM, IN A SANDBOX (cutbox-rows.mjs): the forced cells as the released guide's own fill.sh prints them over the translation 6e7392bf1a1473f0… (all of the seat's roots in one cut). By AI agents, Wed Nov 11 2026. No macro, syntax, notation, axiom, sorry.
-/
import Derived.Test.YtenebabkanehpaaGreatDoorChecked
import GoSem.PinnedTables
import GoSem.Claim
import GoSem.ClaimJoined
import GoSem.ClaimMapViews
import Derived.JoinedTies
import Derived.KernelRfl
namespace Go.Proofs.YtenebabkanehpaaGreatDoor
/- THE CELL 'sum', in the pinned program and in every row, IS THE sha256 OF THE DUMP (.gsa) THAT YtenebabkanehpaaGreatDoorProg.lean LOADS. Nothing in Lean hashes anything: it is a label: what it is worth is what the hold of that sum in a sandbox is worth. -/
noncomputable def Tryz.pinned : Pinned := { name := "ytenebabkanehpaagreatdoor", sum := "6e7392bf1a1473f0fa0b3c6e9acaa5f08b88a6b5c3bbb595cb0ad53c6e1cb5a3", checked := Tryz.checked }
namespace Rows
def none {H : Type} : Left H := { results := [], args := [] }

/- WHAT THE LISTED PACKAGE-LEVEL VARIABLES READ AS WHEN THE CALL BEGINS. Each datum BY PROGRAM (the guide's laid-datum.mjs) off the statement by which the dump's own 'gosem.cut.vars' lays the variable. In a bare row this is a premise. The card (YtenebabkanehpaaGreatDoorCards.lean) ties it to the program's text. -/
def laid_math_bits_deBruijn64tab {H : Type} : DataW H := .agg [.lit (.int .u8 0), .lit (.int .u8 1), .lit (.int .u8 56), .lit (.int .u8 2), .lit (.int .u8 57), .lit (.int .u8 49), .lit (.int .u8 28), .lit (.int .u8 3), .lit (.int .u8 61), .lit (.int .u8 58), .lit (.int .u8 42), .lit (.int .u8 50), .lit (.int .u8 38), .lit (.int .u8 29), .lit (.int .u8 17), .lit (.int .u8 4), .lit (.int .u8 62), .lit (.int .u8 47), .lit (.int .u8 59), .lit (.int .u8 36), .lit (.int .u8 45), .lit (.int .u8 43), .lit (.int .u8 51), .lit (.int .u8 22), .lit (.int .u8 53), .lit (.int .u8 39), .lit (.int .u8 33), .lit (.int .u8 30), .lit (.int .u8 24), .lit (.int .u8 18), .lit (.int .u8 12), .lit (.int .u8 5), .lit (.int .u8 63), .lit (.int .u8 55), .lit (.int .u8 48), .lit (.int .u8 27), .lit (.int .u8 60), .lit (.int .u8 41), .lit (.int .u8 37), .lit (.int .u8 16), .lit (.int .u8 46), .lit (.int .u8 35), .lit (.int .u8 44), .lit (.int .u8 21), .lit (.int .u8 52), .lit (.int .u8 32), .lit (.int .u8 23), .lit (.int .u8 11), .lit (.int .u8 54), .lit (.int .u8 26), .lit (.int .u8 40), .lit (.int .u8 15), .lit (.int .u8 34), .lit (.int .u8 20), .lit (.int .u8 31), .lit (.int .u8 10), .lit (.int .u8 25), .lit (.int .u8 14), .lit (.int .u8 19), .lit (.int .u8 9), .lit (.int .u8 13), .lit (.int .u8 8), .lit (.int .u8 7), .lit (.int .u8 6)]
def laid_unicode_utf8_acceptRanges {H : Type} : DataW H := .agg [.agg [.lit (.int .u8 128), .lit (.int .u8 191)], .agg [.lit (.int .u8 160), .lit (.int .u8 191)], .agg [.lit (.int .u8 128), .lit (.int .u8 159)], .agg [.lit (.int .u8 144), .lit (.int .u8 191)], .agg [.lit (.int .u8 128), .lit (.int .u8 143)], .agg [.lit (.int .u8 0), .lit (.int .u8 0)], .agg [.lit (.int .u8 0), .lit (.int .u8 0)], .agg [.lit (.int .u8 0), .lit (.int .u8 0)], .agg [.lit (.int .u8 0), .lit (.int .u8 0)], .agg [.lit (.int .u8 0), .lit (.int .u8 0)], .agg [.lit (.int .u8 0), .lit (.int .u8 0)], .agg [.lit (.int .u8 0), .lit (.int .u8 0)], .agg [.lit (.int .u8 0), .lit (.int .u8 0)], .agg [.lit (.int .u8 0), .lit (.int .u8 0)], .agg [.lit (.int .u8 0), .lit (.int .u8 0)], .agg [.lit (.int .u8 0), .lit (.int .u8 0)]]
/-- One of Go's own tables, pinned by name: the form's constant. -/
def laid_unicode_utf8_first : DataW Unit := Go.Pinned.utf8First

/-- 'pelorustop.TopTable': WHATEVER THE INPUT: true; the input reads as it did. -/
def topTableSpec : ChangeSpec := { name := "topTable", fn := fun _ => fun
  | [d1, d2] => { results := [.lit (.bool true)], args := [d1, d2] }
  | _ => none }
def topTableRow : OpenClaim := { program := "ytenebabkanehpaagreatdoor", sum := "6e7392bf1a1473f0fa0b3c6e9acaa5f08b88a6b5c3bbb595cb0ad53c6e1cb5a3", func := "pelorus/pelorustop.TopTable", spec := "topTable", inPlace := ["internal/abi.NoEscape", "internal/bytealg.MakeNoZero", "math.Float32frombits", "math.archCeil", "math.archFloor", "math.Float64bits", "math.Float64frombits", "math.archTrunc", "math.Float32bits", "math.RoundToEven", "math.sqrt", "math.archMin", "math.archMax"], unfollowed := true, recurses := true, named := ["unicode/utf8.first", "unicode/utf8.acceptRanges", "math/bits.deBruijn64tab"], apart := false, laid := [("math/bits.deBruijn64tab", laid_math_bits_deBruijn64tab), ("unicode/utf8.acceptRanges", laid_unicode_utf8_acceptRanges), ("unicode/utf8.first", laid_unicode_utf8_first)] }
def TopTableSaid : Prop := topTableRow.holds Tryz.pinned (OpenSpec.ofChange topTableSpec)

/-- ITS FALSE NEIGHBOUR: 'it returns false'. Refute it at one input. -/
def topTableWrong : ChangeSpec := { name := "topTable", fn := fun _ => fun
  | [d1, d2] => { results := [.lit (.bool false)], args := [d1, d2] }
  | _ => none }
def TopTableWrongFalsely : Prop := topTableRow.holds Tryz.pinned (OpenSpec.ofChange topTableWrong)

/-- 'pelorustop.TopIndirect': WHATEVER THE INPUT: true; the input reads as it did. -/
def topIndirectSpec : ChangeSpec := { name := "topIndirect", fn := fun _ => fun
  | [d1, d2] => { results := [.lit (.bool true)], args := [d1, d2] }
  | _ => none }
def topIndirectRow : OpenClaim := { program := "ytenebabkanehpaagreatdoor", sum := "6e7392bf1a1473f0fa0b3c6e9acaa5f08b88a6b5c3bbb595cb0ad53c6e1cb5a3", func := "pelorus/pelorustop.TopIndirect", spec := "topIndirect", inPlace := ["internal/abi.NoEscape", "internal/bytealg.MakeNoZero", "math.Float32frombits", "math.archCeil", "math.archFloor", "math.Float64bits", "math.Float64frombits", "math.archTrunc", "math.Float32bits", "math.RoundToEven", "math.sqrt", "math.archMin", "math.archMax"], unfollowed := true, recurses := true, named := ["unicode/utf8.first", "unicode/utf8.acceptRanges", "math/bits.deBruijn64tab"], apart := false, laid := [("math/bits.deBruijn64tab", laid_math_bits_deBruijn64tab), ("unicode/utf8.acceptRanges", laid_unicode_utf8_acceptRanges), ("unicode/utf8.first", laid_unicode_utf8_first)] }
def TopIndirectSaid : Prop := topIndirectRow.holds Tryz.pinned (OpenSpec.ofChange topIndirectSpec)

/-- ITS FALSE NEIGHBOUR: 'it returns false'. Refute it at one input. -/
def topIndirectWrong : ChangeSpec := { name := "topIndirect", fn := fun _ => fun
  | [d1, d2] => { results := [.lit (.bool false)], args := [d1, d2] }
  | _ => none }
def TopIndirectWrongFalsely : Prop := topIndirectRow.holds Tryz.pinned (OpenSpec.ofChange topIndirectWrong)

/-- 'pelorustop.TopHost': WHATEVER THE INPUT: true; the input reads as it did. -/
def topHostSpec : ChangeSpec := { name := "topHost", fn := fun _ => fun
  | [d1, d2, d3] => { results := [.lit (.bool true)], args := [d1, d2, d3] }
  | _ => none }
def topHostRow : OpenClaim := { program := "ytenebabkanehpaagreatdoor", sum := "6e7392bf1a1473f0fa0b3c6e9acaa5f08b88a6b5c3bbb595cb0ad53c6e1cb5a3", func := "pelorus/pelorustop.TopHost", spec := "topHost", inPlace := ["internal/abi.NoEscape", "internal/bytealg.MakeNoZero", "math.Float32frombits", "math.archCeil", "math.archFloor", "math.Float64bits", "math.Float64frombits", "math.archTrunc", "math.Float32bits", "math.RoundToEven", "math.sqrt", "math.archMin", "math.archMax"], unfollowed := true, recurses := true, named := ["unicode/utf8.first", "unicode/utf8.acceptRanges", "math/bits.deBruijn64tab"], apart := false, laid := [("math/bits.deBruijn64tab", laid_math_bits_deBruijn64tab), ("unicode/utf8.acceptRanges", laid_unicode_utf8_acceptRanges), ("unicode/utf8.first", laid_unicode_utf8_first)] }
def TopHostSaid : Prop := topHostRow.holds Tryz.pinned (OpenSpec.ofChange topHostSpec)

/-- ITS FALSE NEIGHBOUR: 'it returns false'. Refute it at one input. -/
def topHostWrong : ChangeSpec := { name := "topHost", fn := fun _ => fun
  | [d1, d2, d3] => { results := [.lit (.bool false)], args := [d1, d2, d3] }
  | _ => none }
def TopHostWrongFalsely : Prop := topHostRow.holds Tryz.pinned (OpenSpec.ofChange topHostWrong)

/-- 'pelorustop.TopStart': WHATEVER THE INPUT: true; the input reads as it did. -/
def topStartSpec : ChangeSpec := { name := "topStart", fn := fun _ => fun
  | [d1, d2] => { results := [.lit (.bool true)], args := [d1, d2] }
  | _ => none }
def topStartRow : OpenClaim := { program := "ytenebabkanehpaagreatdoor", sum := "6e7392bf1a1473f0fa0b3c6e9acaa5f08b88a6b5c3bbb595cb0ad53c6e1cb5a3", func := "pelorus/pelorustop.TopStart", spec := "topStart", inPlace := ["internal/abi.NoEscape", "internal/bytealg.MakeNoZero", "math.Float32frombits", "math.archCeil", "math.archFloor", "math.Float64bits", "math.Float64frombits", "math.archTrunc", "math.Float32bits", "math.RoundToEven", "math.sqrt", "math.archMin", "math.archMax"], unfollowed := true, recurses := true, named := ["unicode/utf8.first", "unicode/utf8.acceptRanges", "math/bits.deBruijn64tab"], apart := false, laid := [("math/bits.deBruijn64tab", laid_math_bits_deBruijn64tab), ("unicode/utf8.acceptRanges", laid_unicode_utf8_acceptRanges), ("unicode/utf8.first", laid_unicode_utf8_first)] }
def TopStartSaid : Prop := topStartRow.holds Tryz.pinned (OpenSpec.ofChange topStartSpec)

/-- ITS FALSE NEIGHBOUR: 'it returns false'. Refute it at one input. -/
def topStartWrong : ChangeSpec := { name := "topStart", fn := fun _ => fun
  | [d1, d2] => { results := [.lit (.bool false)], args := [d1, d2] }
  | _ => none }
def TopStartWrongFalsely : Prop := topStartRow.holds Tryz.pinned (OpenSpec.ofChange topStartWrong)

/-- 'pelorustop.TopGcd': WHATEVER THE INPUT: true; the input reads as it did. -/
def topGcdSpec : ChangeSpec := { name := "topGcd", fn := fun _ => fun
  | [d1, d2] => { results := [.lit (.bool true)], args := [d1, d2] }
  | _ => none }
def topGcdRow : OpenClaim := { program := "ytenebabkanehpaagreatdoor", sum := "6e7392bf1a1473f0fa0b3c6e9acaa5f08b88a6b5c3bbb595cb0ad53c6e1cb5a3", func := "pelorus/pelorustop.TopGcd", spec := "topGcd", inPlace := ["internal/abi.NoEscape", "internal/bytealg.MakeNoZero", "math.Float32frombits", "math.archCeil", "math.archFloor", "math.Float64bits", "math.Float64frombits", "math.archTrunc", "math.Float32bits", "math.RoundToEven", "math.sqrt", "math.archMin", "math.archMax"], unfollowed := true, recurses := true, named := ["unicode/utf8.first", "unicode/utf8.acceptRanges", "math/bits.deBruijn64tab"], apart := false, laid := [("math/bits.deBruijn64tab", laid_math_bits_deBruijn64tab), ("unicode/utf8.acceptRanges", laid_unicode_utf8_acceptRanges), ("unicode/utf8.first", laid_unicode_utf8_first)] }
def TopGcdSaid : Prop := topGcdRow.holds Tryz.pinned (OpenSpec.ofChange topGcdSpec)

/-- ITS FALSE NEIGHBOUR: 'it returns false'. Refute it at one input. -/
def topGcdWrong : ChangeSpec := { name := "topGcd", fn := fun _ => fun
  | [d1, d2] => { results := [.lit (.bool false)], args := [d1, d2] }
  | _ => none }
def TopGcdWrongFalsely : Prop := topGcdRow.holds Tryz.pinned (OpenSpec.ofChange topGcdWrong)

/-- 'pelorustop.TopFib': WHATEVER THE INPUT: true; the input reads as it did. -/
def topFibSpec : ChangeSpec := { name := "topFib", fn := fun _ => fun
  | [d] => { results := [.lit (.bool true)], args := [d] }
  | _ => none }
def topFibRow : OpenClaim := { program := "ytenebabkanehpaagreatdoor", sum := "6e7392bf1a1473f0fa0b3c6e9acaa5f08b88a6b5c3bbb595cb0ad53c6e1cb5a3", func := "pelorus/pelorustop.TopFib", spec := "topFib", inPlace := ["internal/abi.NoEscape", "internal/bytealg.MakeNoZero", "math.Float32frombits", "math.archCeil", "math.archFloor", "math.Float64bits", "math.Float64frombits", "math.archTrunc", "math.Float32bits", "math.RoundToEven", "math.sqrt", "math.archMin", "math.archMax"], unfollowed := true, recurses := true, named := ["unicode/utf8.first", "unicode/utf8.acceptRanges", "math/bits.deBruijn64tab"], apart := false, laid := [("math/bits.deBruijn64tab", laid_math_bits_deBruijn64tab), ("unicode/utf8.acceptRanges", laid_unicode_utf8_acceptRanges), ("unicode/utf8.first", laid_unicode_utf8_first)] }
def TopFibSaid : Prop := topFibRow.holds Tryz.pinned (OpenSpec.ofChange topFibSpec)

/-- ITS FALSE NEIGHBOUR: 'it returns false'. Refute it at one input. -/
def topFibWrong : ChangeSpec := { name := "topFib", fn := fun _ => fun
  | [d] => { results := [.lit (.bool false)], args := [d] }
  | _ => none }
def TopFibWrongFalsely : Prop := topFibRow.holds Tryz.pinned (OpenSpec.ofChange topFibWrong)

/-- 'pelorustop.TopCopy': WHATEVER THE INPUT: true; the input reads as it did. -/
def topCopySpec : ChangeSpec := { name := "topCopy", fn := fun _ => fun
  | [d1, d2, d3] => { results := [.lit (.bool true)], args := [d1, d2, d3] }
  | _ => none }
def topCopyRow : OpenClaim := { program := "ytenebabkanehpaagreatdoor", sum := "6e7392bf1a1473f0fa0b3c6e9acaa5f08b88a6b5c3bbb595cb0ad53c6e1cb5a3", func := "pelorus/pelorustop.TopCopy", spec := "topCopy", inPlace := ["internal/abi.NoEscape", "internal/bytealg.MakeNoZero", "math.Float32frombits", "math.archCeil", "math.archFloor", "math.Float64bits", "math.Float64frombits", "math.archTrunc", "math.Float32bits", "math.RoundToEven", "math.sqrt", "math.archMin", "math.archMax"], unfollowed := true, recurses := true, named := ["unicode/utf8.first", "unicode/utf8.acceptRanges", "math/bits.deBruijn64tab"], apart := false, laid := [("math/bits.deBruijn64tab", laid_math_bits_deBruijn64tab), ("unicode/utf8.acceptRanges", laid_unicode_utf8_acceptRanges), ("unicode/utf8.first", laid_unicode_utf8_first)] }
def TopCopySaid : Prop := topCopyRow.holds Tryz.pinned (OpenSpec.ofChange topCopySpec)

/-- ITS FALSE NEIGHBOUR: 'it returns false'. Refute it at one input. -/
def topCopyWrong : ChangeSpec := { name := "topCopy", fn := fun _ => fun
  | [d1, d2, d3] => { results := [.lit (.bool false)], args := [d1, d2, d3] }
  | _ => none }
def TopCopyWrongFalsely : Prop := topCopyRow.holds Tryz.pinned (OpenSpec.ofChange topCopyWrong)

/- THE SECOND FORM. 'bulk': how many values and letters a reading holds, each counted each time it is reached (what is shared counts as often as it is met; a slice's spare places count too). A statement '..UptoSaid' is the law's where the arguments, and the package variables that the reading takes, are together of bulk at most 1048576: NARROWER than '..Said'. Prove '..Said' where nothing that the law and all that it calls make is longer than what came in: it says more and counts as full. Else prove '..UptoSaid'. A law counts once. -/
mutual
def uptoBulk {H : Type} : DataW H → Nat
  | .lit (.string bytes) => bytes.length + 1
  | .lit _ => 1
  | .nil => 1
  | .ptr d => uptoBulk d + 1
  | .slice elems spare => uptoBulkAll elems + uptoBulkAll spare + 1
  | .agg parts => uptoBulkAll parts + 1
  | .iface _ d => uptoBulk d + 1
  | .map entries => uptoBulkEntries entries + 1
  | .held _ => 1
def uptoBulkAll {H : Type} : List (DataW H) → Nat
  | [] => 0
  | d :: r => uptoBulk d + uptoBulkAll r
def uptoBulkEntries {H : Type} : List (Lit × DataW H) → Nat
  | [] => 0
  | x :: r => uptoBulkEntry x + uptoBulkEntries r
def uptoBulkEntry {H : Type} : Lit × DataW H → Nat
  | (.string bytes, d) => bytes.length + uptoBulk d + 1
  | (_, d) => uptoBulk d + 1
 end
def uptoSmall : (H : Type) → List (DataW H) → Bool := fun _ ds => decide (uptoBulkAll ds ≤ 1048576)
def OpenSpec.upto (s : _root_.Go.ChangeSpec) : _root_.Go.OpenSpec := { _root_.Go.OpenSpec.ofChange s with cond := some uptoSmall }

/-- 'pelorustop.TopTable', WHERE WHAT IT READS IS OF BULK AT MOST 1048576: true; the input reads as it did. -/
def topTableUptoRow : OpenClaim := { program := "ytenebabkanehpaagreatdoor", sum := "6e7392bf1a1473f0fa0b3c6e9acaa5f08b88a6b5c3bbb595cb0ad53c6e1cb5a3", func := "pelorus/pelorustop.TopTable", spec := "topTable", inPlace := ["internal/abi.NoEscape", "internal/bytealg.MakeNoZero", "math.Float32frombits", "math.archCeil", "math.archFloor", "math.Float64bits", "math.Float64frombits", "math.archTrunc", "math.Float32bits", "math.RoundToEven", "math.sqrt", "math.archMin", "math.archMax"], unfollowed := true, recurses := true, named := ["unicode/utf8.first", "unicode/utf8.acceptRanges", "math/bits.deBruijn64tab"], apart := false, laid := [("math/bits.deBruijn64tab", laid_math_bits_deBruijn64tab), ("unicode/utf8.acceptRanges", laid_unicode_utf8_acceptRanges), ("unicode/utf8.first", laid_unicode_utf8_first)], narrowed := true }
def TopTableUptoSaid : Prop := topTableUptoRow.holds Tryz.pinned (OpenSpec.upto topTableSpec)

/-- 'pelorustop.TopIndirect', WHERE WHAT IT READS IS OF BULK AT MOST 1048576: true; the input reads as it did. -/
def topIndirectUptoRow : OpenClaim := { program := "ytenebabkanehpaagreatdoor", sum := "6e7392bf1a1473f0fa0b3c6e9acaa5f08b88a6b5c3bbb595cb0ad53c6e1cb5a3", func := "pelorus/pelorustop.TopIndirect", spec := "topIndirect", inPlace := ["internal/abi.NoEscape", "internal/bytealg.MakeNoZero", "math.Float32frombits", "math.archCeil", "math.archFloor", "math.Float64bits", "math.Float64frombits", "math.archTrunc", "math.Float32bits", "math.RoundToEven", "math.sqrt", "math.archMin", "math.archMax"], unfollowed := true, recurses := true, named := ["unicode/utf8.first", "unicode/utf8.acceptRanges", "math/bits.deBruijn64tab"], apart := false, laid := [("math/bits.deBruijn64tab", laid_math_bits_deBruijn64tab), ("unicode/utf8.acceptRanges", laid_unicode_utf8_acceptRanges), ("unicode/utf8.first", laid_unicode_utf8_first)], narrowed := true }
def TopIndirectUptoSaid : Prop := topIndirectUptoRow.holds Tryz.pinned (OpenSpec.upto topIndirectSpec)

/-- 'pelorustop.TopHost', WHERE WHAT IT READS IS OF BULK AT MOST 1048576: true; the input reads as it did. -/
def topHostUptoRow : OpenClaim := { program := "ytenebabkanehpaagreatdoor", sum := "6e7392bf1a1473f0fa0b3c6e9acaa5f08b88a6b5c3bbb595cb0ad53c6e1cb5a3", func := "pelorus/pelorustop.TopHost", spec := "topHost", inPlace := ["internal/abi.NoEscape", "internal/bytealg.MakeNoZero", "math.Float32frombits", "math.archCeil", "math.archFloor", "math.Float64bits", "math.Float64frombits", "math.archTrunc", "math.Float32bits", "math.RoundToEven", "math.sqrt", "math.archMin", "math.archMax"], unfollowed := true, recurses := true, named := ["unicode/utf8.first", "unicode/utf8.acceptRanges", "math/bits.deBruijn64tab"], apart := false, laid := [("math/bits.deBruijn64tab", laid_math_bits_deBruijn64tab), ("unicode/utf8.acceptRanges", laid_unicode_utf8_acceptRanges), ("unicode/utf8.first", laid_unicode_utf8_first)], narrowed := true }
def TopHostUptoSaid : Prop := topHostUptoRow.holds Tryz.pinned (OpenSpec.upto topHostSpec)

/-- 'pelorustop.TopStart', WHERE WHAT IT READS IS OF BULK AT MOST 1048576: true; the input reads as it did. -/
def topStartUptoRow : OpenClaim := { program := "ytenebabkanehpaagreatdoor", sum := "6e7392bf1a1473f0fa0b3c6e9acaa5f08b88a6b5c3bbb595cb0ad53c6e1cb5a3", func := "pelorus/pelorustop.TopStart", spec := "topStart", inPlace := ["internal/abi.NoEscape", "internal/bytealg.MakeNoZero", "math.Float32frombits", "math.archCeil", "math.archFloor", "math.Float64bits", "math.Float64frombits", "math.archTrunc", "math.Float32bits", "math.RoundToEven", "math.sqrt", "math.archMin", "math.archMax"], unfollowed := true, recurses := true, named := ["unicode/utf8.first", "unicode/utf8.acceptRanges", "math/bits.deBruijn64tab"], apart := false, laid := [("math/bits.deBruijn64tab", laid_math_bits_deBruijn64tab), ("unicode/utf8.acceptRanges", laid_unicode_utf8_acceptRanges), ("unicode/utf8.first", laid_unicode_utf8_first)], narrowed := true }
def TopStartUptoSaid : Prop := topStartUptoRow.holds Tryz.pinned (OpenSpec.upto topStartSpec)

/-- 'pelorustop.TopGcd', WHERE WHAT IT READS IS OF BULK AT MOST 1048576: true; the input reads as it did. -/
def topGcdUptoRow : OpenClaim := { program := "ytenebabkanehpaagreatdoor", sum := "6e7392bf1a1473f0fa0b3c6e9acaa5f08b88a6b5c3bbb595cb0ad53c6e1cb5a3", func := "pelorus/pelorustop.TopGcd", spec := "topGcd", inPlace := ["internal/abi.NoEscape", "internal/bytealg.MakeNoZero", "math.Float32frombits", "math.archCeil", "math.archFloor", "math.Float64bits", "math.Float64frombits", "math.archTrunc", "math.Float32bits", "math.RoundToEven", "math.sqrt", "math.archMin", "math.archMax"], unfollowed := true, recurses := true, named := ["unicode/utf8.first", "unicode/utf8.acceptRanges", "math/bits.deBruijn64tab"], apart := false, laid := [("math/bits.deBruijn64tab", laid_math_bits_deBruijn64tab), ("unicode/utf8.acceptRanges", laid_unicode_utf8_acceptRanges), ("unicode/utf8.first", laid_unicode_utf8_first)], narrowed := true }
def TopGcdUptoSaid : Prop := topGcdUptoRow.holds Tryz.pinned (OpenSpec.upto topGcdSpec)

/-- 'pelorustop.TopFib', WHERE WHAT IT READS IS OF BULK AT MOST 1048576: true; the input reads as it did. -/
def topFibUptoRow : OpenClaim := { program := "ytenebabkanehpaagreatdoor", sum := "6e7392bf1a1473f0fa0b3c6e9acaa5f08b88a6b5c3bbb595cb0ad53c6e1cb5a3", func := "pelorus/pelorustop.TopFib", spec := "topFib", inPlace := ["internal/abi.NoEscape", "internal/bytealg.MakeNoZero", "math.Float32frombits", "math.archCeil", "math.archFloor", "math.Float64bits", "math.Float64frombits", "math.archTrunc", "math.Float32bits", "math.RoundToEven", "math.sqrt", "math.archMin", "math.archMax"], unfollowed := true, recurses := true, named := ["unicode/utf8.first", "unicode/utf8.acceptRanges", "math/bits.deBruijn64tab"], apart := false, laid := [("math/bits.deBruijn64tab", laid_math_bits_deBruijn64tab), ("unicode/utf8.acceptRanges", laid_unicode_utf8_acceptRanges), ("unicode/utf8.first", laid_unicode_utf8_first)], narrowed := true }
def TopFibUptoSaid : Prop := topFibUptoRow.holds Tryz.pinned (OpenSpec.upto topFibSpec)

/-- 'pelorustop.TopCopy', WHERE WHAT IT READS IS OF BULK AT MOST 1048576: true; the input reads as it did. -/
def topCopyUptoRow : OpenClaim := { program := "ytenebabkanehpaagreatdoor", sum := "6e7392bf1a1473f0fa0b3c6e9acaa5f08b88a6b5c3bbb595cb0ad53c6e1cb5a3", func := "pelorus/pelorustop.TopCopy", spec := "topCopy", inPlace := ["internal/abi.NoEscape", "internal/bytealg.MakeNoZero", "math.Float32frombits", "math.archCeil", "math.archFloor", "math.Float64bits", "math.Float64frombits", "math.archTrunc", "math.Float32bits", "math.RoundToEven", "math.sqrt", "math.archMin", "math.archMax"], unfollowed := true, recurses := true, named := ["unicode/utf8.first", "unicode/utf8.acceptRanges", "math/bits.deBruijn64tab"], apart := false, laid := [("math/bits.deBruijn64tab", laid_math_bits_deBruijn64tab), ("unicode/utf8.acceptRanges", laid_unicode_utf8_acceptRanges), ("unicode/utf8.first", laid_unicode_utf8_first)], narrowed := true }
def TopCopyUptoSaid : Prop := topCopyUptoRow.holds Tryz.pinned (OpenSpec.upto topCopySpec)

end Rows
end Go.Proofs.YtenebabkanehpaaGreatDoor
