/-
  DERIVED. GIVEN WITH THE SEED: THE CARDS: each row of YtenebabkanehpaaGreatDoorRows.lean that lists a variable, with what it lists TIED to the program's text (the seventh form; the later family's looks); each row that meets fmt, with fmt's text TOLD by the authors' own Lean function (tested against real Go, not proved from fmt's source: count such statements apart). THE CARD IS WHAT COUNTS. Prove the row's statement (the work); the ties are given (YtenebabkanehpaaGreatDoorTie.lean); close each card by the builder's one call (the guide's Derived/Test/ToyasCard.lean, 'card_holds'). Laid BY PROGRAM, IN A SANDBOX (cutbox-door.mjs). By AI agents, Wed Nov 11 2026. No macro, syntax, notation, axiom, sorry.
-/
import Derived.Test.YtenebabkanehpaaGreatDoorRows
import GoSem.ClaimSeven
namespace Go.Proofs.YtenebabkanehpaaGreatDoor
namespace Rows

/-- THE TIED CARD OF 'pelorustop.TopTable'. -/
def topTableCard : Claim7 := { stood := { row := topTableRow, standIns := [], harness := (true, "4d834bd9a63f35c57fa18cff7d9169fa068c5b99ab2025c958f1c08b8ac563ed"), looks := true }, kinds := [], alts := [], laidByText := true, laidKinds := [.data, .data, .pinned], laidTests := true, laidLooks := .later }
def TopTableCardSaid : Prop := Claim7.holds Tryz.pinned (.plain (OpenSpec.ofChange topTableSpec)) topTableCard

/-- THE TIED CARD OF 'pelorustop.TopIndirect'. -/
def topIndirectCard : Claim7 := { stood := { row := topIndirectRow, standIns := [], harness := (true, "4d834bd9a63f35c57fa18cff7d9169fa068c5b99ab2025c958f1c08b8ac563ed"), looks := true }, kinds := [], alts := [], laidByText := true, laidKinds := [.data, .data, .pinned], laidTests := true, laidLooks := .later }
def TopIndirectCardSaid : Prop := Claim7.holds Tryz.pinned (.plain (OpenSpec.ofChange topIndirectSpec)) topIndirectCard

/-- THE TIED CARD OF 'pelorustop.TopHost'. -/
def topHostCard : Claim7 := { stood := { row := topHostRow, standIns := [], harness := (true, "4d834bd9a63f35c57fa18cff7d9169fa068c5b99ab2025c958f1c08b8ac563ed"), looks := true }, kinds := [], alts := [], laidByText := true, laidKinds := [.data, .data, .pinned], laidTests := true, laidLooks := .later }
def TopHostCardSaid : Prop := Claim7.holds Tryz.pinned (.plain (OpenSpec.ofChange topHostSpec)) topHostCard

/-- THE TIED CARD OF 'pelorustop.TopStart'. -/
def topStartCard : Claim7 := { stood := { row := topStartRow, standIns := [], harness := (true, "4d834bd9a63f35c57fa18cff7d9169fa068c5b99ab2025c958f1c08b8ac563ed"), looks := true }, kinds := [], alts := [], laidByText := true, laidKinds := [.data, .data, .pinned], laidTests := true, laidLooks := .later }
def TopStartCardSaid : Prop := Claim7.holds Tryz.pinned (.plain (OpenSpec.ofChange topStartSpec)) topStartCard

/-- THE TIED CARD OF 'pelorustop.TopGcd'. -/
def topGcdCard : Claim7 := { stood := { row := topGcdRow, standIns := [], harness := (true, "4d834bd9a63f35c57fa18cff7d9169fa068c5b99ab2025c958f1c08b8ac563ed"), looks := true }, kinds := [], alts := [], laidByText := true, laidKinds := [.data, .data, .pinned], laidTests := true, laidLooks := .later }
def TopGcdCardSaid : Prop := Claim7.holds Tryz.pinned (.plain (OpenSpec.ofChange topGcdSpec)) topGcdCard

/-- THE TIED CARD OF 'pelorustop.TopFib'. -/
def topFibCard : Claim7 := { stood := { row := topFibRow, standIns := [], harness := (true, "4d834bd9a63f35c57fa18cff7d9169fa068c5b99ab2025c958f1c08b8ac563ed"), looks := true }, kinds := [], alts := [], laidByText := true, laidKinds := [.data, .data, .pinned], laidTests := true, laidLooks := .later }
def TopFibCardSaid : Prop := Claim7.holds Tryz.pinned (.plain (OpenSpec.ofChange topFibSpec)) topFibCard

/-- THE TIED CARD OF 'pelorustop.TopCopy'. -/
def topCopyCard : Claim7 := { stood := { row := topCopyRow, standIns := [], harness := (true, "4d834bd9a63f35c57fa18cff7d9169fa068c5b99ab2025c958f1c08b8ac563ed"), looks := true }, kinds := [], alts := [], laidByText := true, laidKinds := [.data, .data, .pinned], laidTests := true, laidLooks := .later }
def TopCopyCardSaid : Prop := Claim7.holds Tryz.pinned (.plain (OpenSpec.ofChange topCopySpec)) topCopyCard

/-- THE SECOND FORM's CARD OF 'pelorustop.TopTable'. -/
def topTableUptoCard : Claim7 := { stood := { row := topTableUptoRow, standIns := [], harness := (true, "4d834bd9a63f35c57fa18cff7d9169fa068c5b99ab2025c958f1c08b8ac563ed"), looks := true }, kinds := [], alts := [], laidByText := true, laidKinds := [.data, .data, .pinned], laidTests := true, laidLooks := .later }
def TopTableUptoCardSaid : Prop := Claim7.holds Tryz.pinned (.plain (OpenSpec.upto topTableSpec)) topTableUptoCard

/-- THE SECOND FORM's CARD OF 'pelorustop.TopIndirect'. -/
def topIndirectUptoCard : Claim7 := { stood := { row := topIndirectUptoRow, standIns := [], harness := (true, "4d834bd9a63f35c57fa18cff7d9169fa068c5b99ab2025c958f1c08b8ac563ed"), looks := true }, kinds := [], alts := [], laidByText := true, laidKinds := [.data, .data, .pinned], laidTests := true, laidLooks := .later }
def TopIndirectUptoCardSaid : Prop := Claim7.holds Tryz.pinned (.plain (OpenSpec.upto topIndirectSpec)) topIndirectUptoCard

/-- THE SECOND FORM's CARD OF 'pelorustop.TopHost'. -/
def topHostUptoCard : Claim7 := { stood := { row := topHostUptoRow, standIns := [], harness := (true, "4d834bd9a63f35c57fa18cff7d9169fa068c5b99ab2025c958f1c08b8ac563ed"), looks := true }, kinds := [], alts := [], laidByText := true, laidKinds := [.data, .data, .pinned], laidTests := true, laidLooks := .later }
def TopHostUptoCardSaid : Prop := Claim7.holds Tryz.pinned (.plain (OpenSpec.upto topHostSpec)) topHostUptoCard

/-- THE SECOND FORM's CARD OF 'pelorustop.TopStart'. -/
def topStartUptoCard : Claim7 := { stood := { row := topStartUptoRow, standIns := [], harness := (true, "4d834bd9a63f35c57fa18cff7d9169fa068c5b99ab2025c958f1c08b8ac563ed"), looks := true }, kinds := [], alts := [], laidByText := true, laidKinds := [.data, .data, .pinned], laidTests := true, laidLooks := .later }
def TopStartUptoCardSaid : Prop := Claim7.holds Tryz.pinned (.plain (OpenSpec.upto topStartSpec)) topStartUptoCard

/-- THE SECOND FORM's CARD OF 'pelorustop.TopGcd'. -/
def topGcdUptoCard : Claim7 := { stood := { row := topGcdUptoRow, standIns := [], harness := (true, "4d834bd9a63f35c57fa18cff7d9169fa068c5b99ab2025c958f1c08b8ac563ed"), looks := true }, kinds := [], alts := [], laidByText := true, laidKinds := [.data, .data, .pinned], laidTests := true, laidLooks := .later }
def TopGcdUptoCardSaid : Prop := Claim7.holds Tryz.pinned (.plain (OpenSpec.upto topGcdSpec)) topGcdUptoCard

/-- THE SECOND FORM's CARD OF 'pelorustop.TopFib'. -/
def topFibUptoCard : Claim7 := { stood := { row := topFibUptoRow, standIns := [], harness := (true, "4d834bd9a63f35c57fa18cff7d9169fa068c5b99ab2025c958f1c08b8ac563ed"), looks := true }, kinds := [], alts := [], laidByText := true, laidKinds := [.data, .data, .pinned], laidTests := true, laidLooks := .later }
def TopFibUptoCardSaid : Prop := Claim7.holds Tryz.pinned (.plain (OpenSpec.upto topFibSpec)) topFibUptoCard

/-- THE SECOND FORM's CARD OF 'pelorustop.TopCopy'. -/
def topCopyUptoCard : Claim7 := { stood := { row := topCopyUptoRow, standIns := [], harness := (true, "4d834bd9a63f35c57fa18cff7d9169fa068c5b99ab2025c958f1c08b8ac563ed"), looks := true }, kinds := [], alts := [], laidByText := true, laidKinds := [.data, .data, .pinned], laidTests := true, laidLooks := .later }
def TopCopyUptoCardSaid : Prop := Claim7.holds Tryz.pinned (.plain (OpenSpec.upto topCopySpec)) topCopyUptoCard
end Rows
end Go.Proofs.YtenebabkanehpaaGreatDoor
