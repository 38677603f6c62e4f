/-
  No cell of these rows narrows 'for every input' (looked for: loops, veiled, ifaces, maps, wideKeys, modest, calm, conditions, laid).
  DERIVED. THE GIVEN ROWS OF THIS SEAT. 9 by the template 'for every input the law returns true; each argument reads behind the call as it read before'; 0 by the template 'total and deterministic' (their statements: YtjgobpmhdeancaaTotals.lean).
  GIVEN WITH THE SEED: the statements are not yours to turn. If you find one false, say at which input.
  Laid BY PROGRAM, IN A SANDBOX (cutbox-rows.mjs): the forced cells as the released guide's own fill.sh prints them over the translation 0117b314005b517c… (all of the seat's roots in one cut). By AI agents, Wed Nov 11 2026. No macro, syntax, notation, axiom, sorry.
-/
import Derived.Test.YtjgobpmhdeancaaChecked
import GoSem.Claim
import GoSem.ClaimJoined
import GoSem.ClaimMapViews
import Derived.JoinedTies
import Derived.KernelRfl
namespace Go.Proofs.Ytjgobpmhdeancaa
/- THE CELL 'sum', in the pinned program and in every row, IS THE sha256 OF THE DUMP (.gsa) THAT YtjgobpmhdeancaaProg.lean LOADS. Nothing in Lean hashes anything: it is a label: what it is worth is what the hold of that sum in a sandbox is worth. -/
noncomputable def Try.pinned : Pinned := { name := "ytjgobpmhdeancaa", sum := "0117b314005b517c92396a326f8a400cb4a17ae66b65fc6b77d633f58af8746a", checked := Try.checked }
namespace Rows
def none {H : Type} : Left H := { results := [], args := [] }

/-- 'peloruslaw8.MemoryBack': WHATEVER THE INPUT: true; the input reads as it did. -/
def memoryBackSpec : ChangeSpec := { name := "memoryBack", fn := fun _ => fun
  | [d1, d2, d3] => { results := [.lit (.bool true)], args := [d1, d2, d3] }
  | _ => none }
def memoryBackRow : OpenClaim := { program := "ytjgobpmhdeancaa", sum := "0117b314005b517c92396a326f8a400cb4a17ae66b65fc6b77d633f58af8746a", func := "pelorus/peloruslaw8.MemoryBack", spec := "memoryBack", apart := false }
def MemoryBackSaid : Prop := memoryBackRow.holds Try.pinned (OpenSpec.ofChange memoryBackSpec)

/-- ITS FALSE NEIGHBOUR: 'it returns false'. Refute it at one input. -/
def memoryBackWrong : ChangeSpec := { name := "memoryBack", fn := fun _ => fun
  | [d1, d2, d3] => { results := [.lit (.bool false)], args := [d1, d2, d3] }
  | _ => none }
def MemoryBackWrongFalsely : Prop := memoryBackRow.holds Try.pinned (OpenSpec.ofChange memoryBackWrong)

/-- 'peloruslaw8.MemoryEnds': WHATEVER THE INPUT: true; the input reads as it did. -/
def memoryEndsSpec : ChangeSpec := { name := "memoryEnds", fn := fun _ => fun
  | [d1, d2] => { results := [.lit (.bool true)], args := [d1, d2] }
  | _ => none }
def memoryEndsRow : OpenClaim := { program := "ytjgobpmhdeancaa", sum := "0117b314005b517c92396a326f8a400cb4a17ae66b65fc6b77d633f58af8746a", func := "pelorus/peloruslaw8.MemoryEnds", spec := "memoryEnds", apart := false }
def MemoryEndsSaid : Prop := memoryEndsRow.holds Try.pinned (OpenSpec.ofChange memoryEndsSpec)

/-- ITS FALSE NEIGHBOUR: 'it returns false'. Refute it at one input. -/
def memoryEndsWrong : ChangeSpec := { name := "memoryEnds", fn := fun _ => fun
  | [d1, d2] => { results := [.lit (.bool false)], args := [d1, d2] }
  | _ => none }
def MemoryEndsWrongFalsely : Prop := memoryEndsRow.holds Try.pinned (OpenSpec.ofChange memoryEndsWrong)

/-- 'peloruslaw8.MemoryGrows': WHATEVER THE INPUT: true; the input reads as it did. -/
def memoryGrowsSpec : ChangeSpec := { name := "memoryGrows", fn := fun _ => fun
  | [d1, d2, d3, d4] => { results := [.lit (.bool true)], args := [d1, d2, d3, d4] }
  | _ => none }
def memoryGrowsRow : OpenClaim := { program := "ytjgobpmhdeancaa", sum := "0117b314005b517c92396a326f8a400cb4a17ae66b65fc6b77d633f58af8746a", func := "pelorus/peloruslaw8.MemoryGrows", spec := "memoryGrows", apart := false }
def MemoryGrowsSaid : Prop := memoryGrowsRow.holds Try.pinned (OpenSpec.ofChange memoryGrowsSpec)

/-- ITS FALSE NEIGHBOUR: 'it returns false'. Refute it at one input. -/
def memoryGrowsWrong : ChangeSpec := { name := "memoryGrows", fn := fun _ => fun
  | [d1, d2, d3, d4] => { results := [.lit (.bool false)], args := [d1, d2, d3, d4] }
  | _ => none }
def MemoryGrowsWrongFalsely : Prop := memoryGrowsRow.holds Try.pinned (OpenSpec.ofChange memoryGrowsWrong)

/-- 'peloruslaw8.MemoryWidths': WHATEVER THE INPUT: true; the input reads as it did. -/
def memoryWidthsSpec : ChangeSpec := { name := "memoryWidths", fn := fun _ => fun
  | [d1, d2] => { results := [.lit (.bool true)], args := [d1, d2] }
  | _ => none }
def memoryWidthsRow : OpenClaim := { program := "ytjgobpmhdeancaa", sum := "0117b314005b517c92396a326f8a400cb4a17ae66b65fc6b77d633f58af8746a", func := "pelorus/peloruslaw8.MemoryWidths", spec := "memoryWidths", apart := false }
def MemoryWidthsSaid : Prop := memoryWidthsRow.holds Try.pinned (OpenSpec.ofChange memoryWidthsSpec)

/-- ITS FALSE NEIGHBOUR: 'it returns false'. Refute it at one input. -/
def memoryWidthsWrong : ChangeSpec := { name := "memoryWidths", fn := fun _ => fun
  | [d1, d2] => { results := [.lit (.bool false)], args := [d1, d2] }
  | _ => none }
def MemoryWidthsWrongFalsely : Prop := memoryWidthsRow.holds Try.pinned (OpenSpec.ofChange memoryWidthsWrong)

/-- 'peloruslaw8.MemoryActs': WHATEVER THE INPUT: true; the input reads as it did. -/
def memoryActsSpec : ChangeSpec := { name := "memoryActs", fn := fun _ => fun
  | [d1, d2, d3] => { results := [.lit (.bool true)], args := [d1, d2, d3] }
  | _ => none }
def memoryActsRow : OpenClaim := { program := "ytjgobpmhdeancaa", sum := "0117b314005b517c92396a326f8a400cb4a17ae66b65fc6b77d633f58af8746a", func := "pelorus/peloruslaw8.MemoryActs", spec := "memoryActs", apart := false }
def MemoryActsSaid : Prop := memoryActsRow.holds Try.pinned (OpenSpec.ofChange memoryActsSpec)

/-- ITS FALSE NEIGHBOUR: 'it returns false'. Refute it at one input. -/
def memoryActsWrong : ChangeSpec := { name := "memoryActs", fn := fun _ => fun
  | [d1, d2, d3] => { results := [.lit (.bool false)], args := [d1, d2, d3] }
  | _ => none }
def MemoryActsWrongFalsely : Prop := memoryActsRow.holds Try.pinned (OpenSpec.ofChange memoryActsWrong)

/-- 'peloruslaw8.MemoryPuts': WHATEVER THE INPUT: true; the input reads as it did. -/
def memoryPutsSpec : ChangeSpec := { name := "memoryPuts", fn := fun _ => fun
  | [d1, d2] => { results := [.lit (.bool true)], args := [d1, d2] }
  | _ => none }
def memoryPutsRow : OpenClaim := { program := "ytjgobpmhdeancaa", sum := "0117b314005b517c92396a326f8a400cb4a17ae66b65fc6b77d633f58af8746a", func := "pelorus/peloruslaw8.MemoryPuts", spec := "memoryPuts", apart := false }
def MemoryPutsSaid : Prop := memoryPutsRow.holds Try.pinned (OpenSpec.ofChange memoryPutsSpec)

/-- ITS FALSE NEIGHBOUR: 'it returns false'. Refute it at one input. -/
def memoryPutsWrong : ChangeSpec := { name := "memoryPuts", fn := fun _ => fun
  | [d1, d2] => { results := [.lit (.bool false)], args := [d1, d2] }
  | _ => none }
def MemoryPutsWrongFalsely : Prop := memoryPutsRow.holds Try.pinned (OpenSpec.ofChange memoryPutsWrong)

/-- 'peloruslaw9.TableActs': WHATEVER THE INPUT: true; the input reads as it did. -/
def tableActsSpec : ChangeSpec := { name := "tableActs", fn := fun _ => fun
  | [d1, d2] => { results := [.lit (.bool true)], args := [d1, d2] }
  | _ => none }
def tableActsRow : OpenClaim := { program := "ytjgobpmhdeancaa", sum := "0117b314005b517c92396a326f8a400cb4a17ae66b65fc6b77d633f58af8746a", func := "pelorus/peloruslaw9.TableActs", spec := "tableActs", unfollowed := true, recurses := true, apart := false }
def TableActsSaid : Prop := tableActsRow.holds Try.pinned (OpenSpec.ofChange tableActsSpec)

/-- ITS FALSE NEIGHBOUR: 'it returns false'. Refute it at one input. -/
def tableActsWrong : ChangeSpec := { name := "tableActs", fn := fun _ => fun
  | [d1, d2] => { results := [.lit (.bool false)], args := [d1, d2] }
  | _ => none }
def TableActsWrongFalsely : Prop := tableActsRow.holds Try.pinned (OpenSpec.ofChange tableActsWrong)

/-- 'peloruslaw9.TablePuts': WHATEVER THE INPUT: true; the input reads as it did. -/
def tablePutsSpec : ChangeSpec := { name := "tablePuts", fn := fun _ => fun
  | [d1, d2, d3] => { results := [.lit (.bool true)], args := [d1, d2, d3] }
  | _ => none }
def tablePutsRow : OpenClaim := { program := "ytjgobpmhdeancaa", sum := "0117b314005b517c92396a326f8a400cb4a17ae66b65fc6b77d633f58af8746a", func := "pelorus/peloruslaw9.TablePuts", spec := "tablePuts", unfollowed := true, recurses := true, apart := false }
def TablePutsSaid : Prop := tablePutsRow.holds Try.pinned (OpenSpec.ofChange tablePutsSpec)

/-- ITS FALSE NEIGHBOUR: 'it returns false'. Refute it at one input. -/
def tablePutsWrong : ChangeSpec := { name := "tablePuts", fn := fun _ => fun
  | [d1, d2, d3] => { results := [.lit (.bool false)], args := [d1, d2, d3] }
  | _ => none }
def TablePutsWrongFalsely : Prop := tablePutsRow.holds Try.pinned (OpenSpec.ofChange tablePutsWrong)

/-- 'peloruslaw9.TableForms': WHATEVER THE INPUT: true; the input reads as it did. -/
def tableFormsSpec : ChangeSpec := { name := "tableForms", fn := fun _ => fun
  | [d1, d2, d3, d4] => { results := [.lit (.bool true)], args := [d1, d2, d3, d4] }
  | _ => none }
def tableFormsRow : OpenClaim := { program := "ytjgobpmhdeancaa", sum := "0117b314005b517c92396a326f8a400cb4a17ae66b65fc6b77d633f58af8746a", func := "pelorus/peloruslaw9.TableForms", spec := "tableForms", unfollowed := true, recurses := true, apart := false }
def TableFormsSaid : Prop := tableFormsRow.holds Try.pinned (OpenSpec.ofChange tableFormsSpec)

/-- ITS FALSE NEIGHBOUR: 'it returns false'. Refute it at one input. -/
def tableFormsWrong : ChangeSpec := { name := "tableForms", fn := fun _ => fun
  | [d1, d2, d3, d4] => { results := [.lit (.bool false)], args := [d1, d2, d3, d4] }
  | _ => none }
def TableFormsWrongFalsely : Prop := tableFormsRow.holds Try.pinned (OpenSpec.ofChange tableFormsWrong)

/- THE SECOND FORM. 'bulk': how many values and letters a reading holds, each counted each time it is reached (what is shared counts as often as it is met; a slice's spare places count too). A statement '..UptoSaid' is the law's where the arguments, and the package variables that the reading takes, are together of bulk at most 1048576: NARROWER than '..Said'. Prove '..Said' where nothing that the law and all that it calls make is longer than what came in: it says more and counts as full. Else prove '..UptoSaid'. A law counts once. -/
mutual
def uptoBulk {H : Type} : DataW H → Nat
  | .lit (.string bytes) => bytes.length + 1
  | .lit _ => 1
  | .nil => 1
  | .ptr d => uptoBulk d + 1
  | .slice elems spare => uptoBulkAll elems + uptoBulkAll spare + 1
  | .agg parts => uptoBulkAll parts + 1
  | .iface _ d => uptoBulk d + 1
  | .map entries => uptoBulkEntries entries + 1
  | .held _ => 1
def uptoBulkAll {H : Type} : List (DataW H) → Nat
  | [] => 0
  | d :: r => uptoBulk d + uptoBulkAll r
def uptoBulkEntries {H : Type} : List (Lit × DataW H) → Nat
  | [] => 0
  | x :: r => uptoBulkEntry x + uptoBulkEntries r
def uptoBulkEntry {H : Type} : Lit × DataW H → Nat
  | (.string bytes, d) => bytes.length + uptoBulk d + 1
  | (_, d) => uptoBulk d + 1
 end
def uptoSmall : (H : Type) → List (DataW H) → Bool := fun _ ds => decide (uptoBulkAll ds ≤ 1048576)
def OpenSpec.upto (s : _root_.Go.ChangeSpec) : _root_.Go.OpenSpec := { _root_.Go.OpenSpec.ofChange s with cond := some uptoSmall }

/-- 'peloruslaw8.MemoryBack', WHERE WHAT IT READS IS OF BULK AT MOST 1048576: true; the input reads as it did. -/
def memoryBackUptoRow : OpenClaim := { program := "ytjgobpmhdeancaa", sum := "0117b314005b517c92396a326f8a400cb4a17ae66b65fc6b77d633f58af8746a", func := "pelorus/peloruslaw8.MemoryBack", spec := "memoryBack", apart := false, narrowed := true }
def MemoryBackUptoSaid : Prop := memoryBackUptoRow.holds Try.pinned (OpenSpec.upto memoryBackSpec)

/-- 'peloruslaw8.MemoryEnds', WHERE WHAT IT READS IS OF BULK AT MOST 1048576: true; the input reads as it did. -/
def memoryEndsUptoRow : OpenClaim := { program := "ytjgobpmhdeancaa", sum := "0117b314005b517c92396a326f8a400cb4a17ae66b65fc6b77d633f58af8746a", func := "pelorus/peloruslaw8.MemoryEnds", spec := "memoryEnds", apart := false, narrowed := true }
def MemoryEndsUptoSaid : Prop := memoryEndsUptoRow.holds Try.pinned (OpenSpec.upto memoryEndsSpec)

/-- 'peloruslaw8.MemoryGrows', WHERE WHAT IT READS IS OF BULK AT MOST 1048576: true; the input reads as it did. -/
def memoryGrowsUptoRow : OpenClaim := { program := "ytjgobpmhdeancaa", sum := "0117b314005b517c92396a326f8a400cb4a17ae66b65fc6b77d633f58af8746a", func := "pelorus/peloruslaw8.MemoryGrows", spec := "memoryGrows", apart := false, narrowed := true }
def MemoryGrowsUptoSaid : Prop := memoryGrowsUptoRow.holds Try.pinned (OpenSpec.upto memoryGrowsSpec)

/-- 'peloruslaw8.MemoryWidths', WHERE WHAT IT READS IS OF BULK AT MOST 1048576: true; the input reads as it did. -/
def memoryWidthsUptoRow : OpenClaim := { program := "ytjgobpmhdeancaa", sum := "0117b314005b517c92396a326f8a400cb4a17ae66b65fc6b77d633f58af8746a", func := "pelorus/peloruslaw8.MemoryWidths", spec := "memoryWidths", apart := false, narrowed := true }
def MemoryWidthsUptoSaid : Prop := memoryWidthsUptoRow.holds Try.pinned (OpenSpec.upto memoryWidthsSpec)

/-- 'peloruslaw8.MemoryActs', WHERE WHAT IT READS IS OF BULK AT MOST 1048576: true; the input reads as it did. -/
def memoryActsUptoRow : OpenClaim := { program := "ytjgobpmhdeancaa", sum := "0117b314005b517c92396a326f8a400cb4a17ae66b65fc6b77d633f58af8746a", func := "pelorus/peloruslaw8.MemoryActs", spec := "memoryActs", apart := false, narrowed := true }
def MemoryActsUptoSaid : Prop := memoryActsUptoRow.holds Try.pinned (OpenSpec.upto memoryActsSpec)

/-- 'peloruslaw8.MemoryPuts', WHERE WHAT IT READS IS OF BULK AT MOST 1048576: true; the input reads as it did. -/
def memoryPutsUptoRow : OpenClaim := { program := "ytjgobpmhdeancaa", sum := "0117b314005b517c92396a326f8a400cb4a17ae66b65fc6b77d633f58af8746a", func := "pelorus/peloruslaw8.MemoryPuts", spec := "memoryPuts", apart := false, narrowed := true }
def MemoryPutsUptoSaid : Prop := memoryPutsUptoRow.holds Try.pinned (OpenSpec.upto memoryPutsSpec)

/-- 'peloruslaw9.TableActs', WHERE WHAT IT READS IS OF BULK AT MOST 1048576: true; the input reads as it did. -/
def tableActsUptoRow : OpenClaim := { program := "ytjgobpmhdeancaa", sum := "0117b314005b517c92396a326f8a400cb4a17ae66b65fc6b77d633f58af8746a", func := "pelorus/peloruslaw9.TableActs", spec := "tableActs", unfollowed := true, recurses := true, apart := false, narrowed := true }
def TableActsUptoSaid : Prop := tableActsUptoRow.holds Try.pinned (OpenSpec.upto tableActsSpec)

/-- 'peloruslaw9.TablePuts', WHERE WHAT IT READS IS OF BULK AT MOST 1048576: true; the input reads as it did. -/
def tablePutsUptoRow : OpenClaim := { program := "ytjgobpmhdeancaa", sum := "0117b314005b517c92396a326f8a400cb4a17ae66b65fc6b77d633f58af8746a", func := "pelorus/peloruslaw9.TablePuts", spec := "tablePuts", unfollowed := true, recurses := true, apart := false, narrowed := true }
def TablePutsUptoSaid : Prop := tablePutsUptoRow.holds Try.pinned (OpenSpec.upto tablePutsSpec)

/-- 'peloruslaw9.TableForms', WHERE WHAT IT READS IS OF BULK AT MOST 1048576: true; the input reads as it did. -/
def tableFormsUptoRow : OpenClaim := { program := "ytjgobpmhdeancaa", sum := "0117b314005b517c92396a326f8a400cb4a17ae66b65fc6b77d633f58af8746a", func := "pelorus/peloruslaw9.TableForms", spec := "tableForms", unfollowed := true, recurses := true, apart := false, narrowed := true }
def TableFormsUptoSaid : Prop := tableFormsUptoRow.holds Try.pinned (OpenSpec.upto tableFormsSpec)

end Rows
end Go.Proofs.Ytjgobpmhdeancaa
