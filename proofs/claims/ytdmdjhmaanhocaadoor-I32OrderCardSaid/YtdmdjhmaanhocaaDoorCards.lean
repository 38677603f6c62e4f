/-
  DERIVED. GIVEN WITH THE SEED: THE CARDS: each row of YtdmdjhmaanhocaaDoorRows.lean that lists a variable, with what it lists TIED to the program's text (the seventh form; the later family's looks); each row that meets fmt, with fmt's text TOLD by the authors' own Lean function (tested against real Go, not proved from fmt's source: count such statements apart). THE CARD IS WHAT COUNTS. Prove the row's statement (the work); the ties are given (YtdmdjhmaanhocaaDoorTie.lean); close each card by the builder's one call (the guide's Derived/Test/ToyasCard.lean, 'card_holds'). Laid BY PROGRAM, IN A SANDBOX (cutbox-door.mjs). By AI agents, Wed Nov 11 2026. No macro, syntax, notation, axiom, sorry.
-/
import Derived.Test.YtdmdjhmaanhocaaDoorRows
import GoSem.ClaimSeven
namespace Go.Proofs.YtdmdjhmaanhocaaDoor
namespace Rows

/-- THE TIED CARD OF 'peloruslaw1.BitsAll'. -/
def bitsAllCard : Claim7 := { stood := { row := bitsAllRow, standIns := [], harness := (true, "22c091170d98a91e7953c0cbb7de623c06070e4acc4af2d7f30dec34cf78bd51"), looks := false }, kinds := [], alts := [], laidByText := true, laidKinds := [.data], laidTests := true, laidLooks := .later }
def BitsAllCardSaid : Prop := Claim7.holds Tryd.pinned (.plain (OpenSpec.ofChange bitsAllSpec)) bitsAllCard

/-- THE TIED CARD OF 'peloruslaw1.BitsRules'. -/
def bitsRulesCard : Claim7 := { stood := { row := bitsRulesRow, standIns := [], harness := (true, "22c091170d98a91e7953c0cbb7de623c06070e4acc4af2d7f30dec34cf78bd51"), looks := false }, kinds := [], alts := [], laidByText := true, laidKinds := [.data], laidTests := true, laidLooks := .later }
def BitsRulesCardSaid : Prop := Claim7.holds Tryd.pinned (.plain (OpenSpec.ofChange bitsRulesSpec)) bitsRulesCard

/-- THE TIED CARD OF 'peloruslaw1.BitsPowers'. -/
def bitsPowersCard : Claim7 := { stood := { row := bitsPowersRow, standIns := [], harness := (true, "22c091170d98a91e7953c0cbb7de623c06070e4acc4af2d7f30dec34cf78bd51"), looks := false }, kinds := [], alts := [], laidByText := true, laidKinds := [.data], laidTests := true, laidLooks := .later }
def BitsPowersCardSaid : Prop := Claim7.holds Tryd.pinned (.plain (OpenSpec.ofChange bitsPowersSpec)) bitsPowersCard

/-- THE TIED CARD OF 'peloruslaw3.I64All'. -/
def i64AllCard : Claim7 := { stood := { row := i64AllRow, standIns := [], harness := (true, "22c091170d98a91e7953c0cbb7de623c06070e4acc4af2d7f30dec34cf78bd51"), looks := false }, kinds := [], alts := [], laidByText := true, laidKinds := [.data], laidTests := true, laidLooks := .later }
def I64AllCardSaid : Prop := Claim7.holds Tryd.pinned (.plain (OpenSpec.ofChange i64AllSpec)) i64AllCard

/-- THE TIED CARD OF 'peloruslaw3.I64Each'. -/
def i64EachCard : Claim7 := { stood := { row := i64EachRow, standIns := [], harness := (true, "22c091170d98a91e7953c0cbb7de623c06070e4acc4af2d7f30dec34cf78bd51"), looks := false }, kinds := [], alts := [], laidByText := true, laidKinds := [.data], laidTests := true, laidLooks := .later }
def I64EachCardSaid : Prop := Claim7.holds Tryd.pinned (.plain (OpenSpec.ofChange i64EachSpec)) i64EachCard

/-- THE TIED CARD OF 'peloruslaw3.I64Rules'. -/
def i64RulesCard : Claim7 := { stood := { row := i64RulesRow, standIns := [], harness := (true, "22c091170d98a91e7953c0cbb7de623c06070e4acc4af2d7f30dec34cf78bd51"), looks := false }, kinds := [], alts := [], laidByText := true, laidKinds := [.data], laidTests := true, laidLooks := .later }
def I64RulesCardSaid : Prop := Claim7.holds Tryd.pinned (.plain (OpenSpec.ofChange i64RulesSpec)) i64RulesCard

/-- THE TIED CARD OF 'peloruslaw3.I64Ring'. -/
def i64RingCard : Claim7 := { stood := { row := i64RingRow, standIns := [], harness := (true, "22c091170d98a91e7953c0cbb7de623c06070e4acc4af2d7f30dec34cf78bd51"), looks := false }, kinds := [], alts := [], laidByText := true, laidKinds := [.data], laidTests := true, laidLooks := .later }
def I64RingCardSaid : Prop := Claim7.holds Tryd.pinned (.plain (OpenSpec.ofChange i64RingSpec)) i64RingCard

/-- THE TIED CARD OF 'peloruslaw3.I64Order'. -/
def i64OrderCard : Claim7 := { stood := { row := i64OrderRow, standIns := [], harness := (true, "22c091170d98a91e7953c0cbb7de623c06070e4acc4af2d7f30dec34cf78bd51"), looks := false }, kinds := [], alts := [], laidByText := true, laidKinds := [.data], laidTests := true, laidLooks := .later }
def I64OrderCardSaid : Prop := Claim7.holds Tryd.pinned (.plain (OpenSpec.ofChange i64OrderSpec)) i64OrderCard

/-- THE TIED CARD OF 'peloruslaw3.I64Logic'. -/
def i64LogicCard : Claim7 := { stood := { row := i64LogicRow, standIns := [], harness := (true, "22c091170d98a91e7953c0cbb7de623c06070e4acc4af2d7f30dec34cf78bd51"), looks := false }, kinds := [], alts := [], laidByText := true, laidKinds := [.data], laidTests := true, laidLooks := .later }
def I64LogicCardSaid : Prop := Claim7.holds Tryd.pinned (.plain (OpenSpec.ofChange i64LogicSpec)) i64LogicCard

/-- THE TIED CARD OF 'peloruslaw3.I64Shifts'. -/
def i64ShiftsCard : Claim7 := { stood := { row := i64ShiftsRow, standIns := [], harness := (true, "22c091170d98a91e7953c0cbb7de623c06070e4acc4af2d7f30dec34cf78bd51"), looks := false }, kinds := [], alts := [], laidByText := true, laidKinds := [.data], laidTests := true, laidLooks := .later }
def I64ShiftsCardSaid : Prop := Claim7.holds Tryd.pinned (.plain (OpenSpec.ofChange i64ShiftsSpec)) i64ShiftsCard

/-- THE TIED CARD OF 'peloruslaw3.I64Counts'. -/
def i64CountsCard : Claim7 := { stood := { row := i64CountsRow, standIns := [], harness := (true, "22c091170d98a91e7953c0cbb7de623c06070e4acc4af2d7f30dec34cf78bd51"), looks := false }, kinds := [], alts := [], laidByText := true, laidKinds := [.data], laidTests := true, laidLooks := .later }
def I64CountsCardSaid : Prop := Claim7.holds Tryd.pinned (.plain (OpenSpec.ofChange i64CountsSpec)) i64CountsCard

/-- THE TIED CARD OF 'peloruslaw3.I64Signs'. -/
def i64SignsCard : Claim7 := { stood := { row := i64SignsRow, standIns := [], harness := (true, "22c091170d98a91e7953c0cbb7de623c06070e4acc4af2d7f30dec34cf78bd51"), looks := false }, kinds := [], alts := [], laidByText := true, laidKinds := [.data], laidTests := true, laidLooks := .later }
def I64SignsCardSaid : Prop := Claim7.holds Tryd.pinned (.plain (OpenSpec.ofChange i64SignsSpec)) i64SignsCard

/-- THE TIED CARD OF 'peloruslaw2.I32All'. -/
def i32AllCard : Claim7 := { stood := { row := i32AllRow, standIns := [], harness := (true, "22c091170d98a91e7953c0cbb7de623c06070e4acc4af2d7f30dec34cf78bd51"), looks := false }, kinds := [], alts := [], laidByText := true, laidKinds := [.data], laidTests := true, laidLooks := .later }
def I32AllCardSaid : Prop := Claim7.holds Tryd.pinned (.plain (OpenSpec.ofChange i32AllSpec)) i32AllCard

/-- THE TIED CARD OF 'peloruslaw2.I32Each'. -/
def i32EachCard : Claim7 := { stood := { row := i32EachRow, standIns := [], harness := (true, "22c091170d98a91e7953c0cbb7de623c06070e4acc4af2d7f30dec34cf78bd51"), looks := false }, kinds := [], alts := [], laidByText := true, laidKinds := [.data], laidTests := true, laidLooks := .later }
def I32EachCardSaid : Prop := Claim7.holds Tryd.pinned (.plain (OpenSpec.ofChange i32EachSpec)) i32EachCard

/-- THE TIED CARD OF 'peloruslaw2.I32Rules'. -/
def i32RulesCard : Claim7 := { stood := { row := i32RulesRow, standIns := [], harness := (true, "22c091170d98a91e7953c0cbb7de623c06070e4acc4af2d7f30dec34cf78bd51"), looks := false }, kinds := [], alts := [], laidByText := true, laidKinds := [.data], laidTests := true, laidLooks := .later }
def I32RulesCardSaid : Prop := Claim7.holds Tryd.pinned (.plain (OpenSpec.ofChange i32RulesSpec)) i32RulesCard

/-- THE TIED CARD OF 'peloruslaw2.I32Ring'. -/
def i32RingCard : Claim7 := { stood := { row := i32RingRow, standIns := [], harness := (true, "22c091170d98a91e7953c0cbb7de623c06070e4acc4af2d7f30dec34cf78bd51"), looks := false }, kinds := [], alts := [], laidByText := true, laidKinds := [.data], laidTests := true, laidLooks := .later }
def I32RingCardSaid : Prop := Claim7.holds Tryd.pinned (.plain (OpenSpec.ofChange i32RingSpec)) i32RingCard

/-- THE TIED CARD OF 'peloruslaw2.I32Order'. -/
def i32OrderCard : Claim7 := { stood := { row := i32OrderRow, standIns := [], harness := (true, "22c091170d98a91e7953c0cbb7de623c06070e4acc4af2d7f30dec34cf78bd51"), looks := false }, kinds := [], alts := [], laidByText := true, laidKinds := [.data], laidTests := true, laidLooks := .later }
def I32OrderCardSaid : Prop := Claim7.holds Tryd.pinned (.plain (OpenSpec.ofChange i32OrderSpec)) i32OrderCard

/-- THE TIED CARD OF 'peloruslaw2.I32Logic'. -/
def i32LogicCard : Claim7 := { stood := { row := i32LogicRow, standIns := [], harness := (true, "22c091170d98a91e7953c0cbb7de623c06070e4acc4af2d7f30dec34cf78bd51"), looks := false }, kinds := [], alts := [], laidByText := true, laidKinds := [.data], laidTests := true, laidLooks := .later }
def I32LogicCardSaid : Prop := Claim7.holds Tryd.pinned (.plain (OpenSpec.ofChange i32LogicSpec)) i32LogicCard

/-- THE TIED CARD OF 'peloruslaw2.I32Shifts'. -/
def i32ShiftsCard : Claim7 := { stood := { row := i32ShiftsRow, standIns := [], harness := (true, "22c091170d98a91e7953c0cbb7de623c06070e4acc4af2d7f30dec34cf78bd51"), looks := false }, kinds := [], alts := [], laidByText := true, laidKinds := [.data], laidTests := true, laidLooks := .later }
def I32ShiftsCardSaid : Prop := Claim7.holds Tryd.pinned (.plain (OpenSpec.ofChange i32ShiftsSpec)) i32ShiftsCard

/-- THE TIED CARD OF 'peloruslaw2.I32Counts'. -/
def i32CountsCard : Claim7 := { stood := { row := i32CountsRow, standIns := [], harness := (true, "22c091170d98a91e7953c0cbb7de623c06070e4acc4af2d7f30dec34cf78bd51"), looks := false }, kinds := [], alts := [], laidByText := true, laidKinds := [.data], laidTests := true, laidLooks := .later }
def I32CountsCardSaid : Prop := Claim7.holds Tryd.pinned (.plain (OpenSpec.ofChange i32CountsSpec)) i32CountsCard

/-- THE TIED CARD OF 'peloruslaw2.I32Signs'. -/
def i32SignsCard : Claim7 := { stood := { row := i32SignsRow, standIns := [], harness := (true, "22c091170d98a91e7953c0cbb7de623c06070e4acc4af2d7f30dec34cf78bd51"), looks := false }, kinds := [], alts := [], laidByText := true, laidKinds := [.data], laidTests := true, laidLooks := .later }
def I32SignsCardSaid : Prop := Claim7.holds Tryd.pinned (.plain (OpenSpec.ofChange i32SignsSpec)) i32SignsCard

/-- THE SECOND FORM's CARD OF 'peloruslaw1.BitsAll'. -/
def bitsAllUptoCard : Claim7 := { stood := { row := bitsAllUptoRow, standIns := [], harness := (true, "22c091170d98a91e7953c0cbb7de623c06070e4acc4af2d7f30dec34cf78bd51"), looks := false }, kinds := [], alts := [], laidByText := true, laidKinds := [.data], laidTests := true, laidLooks := .later }
def BitsAllUptoCardSaid : Prop := Claim7.holds Tryd.pinned (.plain (OpenSpec.upto bitsAllSpec)) bitsAllUptoCard

/-- THE SECOND FORM's CARD OF 'peloruslaw1.BitsRules'. -/
def bitsRulesUptoCard : Claim7 := { stood := { row := bitsRulesUptoRow, standIns := [], harness := (true, "22c091170d98a91e7953c0cbb7de623c06070e4acc4af2d7f30dec34cf78bd51"), looks := false }, kinds := [], alts := [], laidByText := true, laidKinds := [.data], laidTests := true, laidLooks := .later }
def BitsRulesUptoCardSaid : Prop := Claim7.holds Tryd.pinned (.plain (OpenSpec.upto bitsRulesSpec)) bitsRulesUptoCard

/-- THE SECOND FORM's CARD OF 'peloruslaw1.BitsPowers'. -/
def bitsPowersUptoCard : Claim7 := { stood := { row := bitsPowersUptoRow, standIns := [], harness := (true, "22c091170d98a91e7953c0cbb7de623c06070e4acc4af2d7f30dec34cf78bd51"), looks := false }, kinds := [], alts := [], laidByText := true, laidKinds := [.data], laidTests := true, laidLooks := .later }
def BitsPowersUptoCardSaid : Prop := Claim7.holds Tryd.pinned (.plain (OpenSpec.upto bitsPowersSpec)) bitsPowersUptoCard

/-- THE SECOND FORM's CARD OF 'peloruslaw3.I64All'. -/
def i64AllUptoCard : Claim7 := { stood := { row := i64AllUptoRow, standIns := [], harness := (true, "22c091170d98a91e7953c0cbb7de623c06070e4acc4af2d7f30dec34cf78bd51"), looks := false }, kinds := [], alts := [], laidByText := true, laidKinds := [.data], laidTests := true, laidLooks := .later }
def I64AllUptoCardSaid : Prop := Claim7.holds Tryd.pinned (.plain (OpenSpec.upto i64AllSpec)) i64AllUptoCard

/-- THE SECOND FORM's CARD OF 'peloruslaw3.I64Each'. -/
def i64EachUptoCard : Claim7 := { stood := { row := i64EachUptoRow, standIns := [], harness := (true, "22c091170d98a91e7953c0cbb7de623c06070e4acc4af2d7f30dec34cf78bd51"), looks := false }, kinds := [], alts := [], laidByText := true, laidKinds := [.data], laidTests := true, laidLooks := .later }
def I64EachUptoCardSaid : Prop := Claim7.holds Tryd.pinned (.plain (OpenSpec.upto i64EachSpec)) i64EachUptoCard

/-- THE SECOND FORM's CARD OF 'peloruslaw3.I64Rules'. -/
def i64RulesUptoCard : Claim7 := { stood := { row := i64RulesUptoRow, standIns := [], harness := (true, "22c091170d98a91e7953c0cbb7de623c06070e4acc4af2d7f30dec34cf78bd51"), looks := false }, kinds := [], alts := [], laidByText := true, laidKinds := [.data], laidTests := true, laidLooks := .later }
def I64RulesUptoCardSaid : Prop := Claim7.holds Tryd.pinned (.plain (OpenSpec.upto i64RulesSpec)) i64RulesUptoCard

/-- THE SECOND FORM's CARD OF 'peloruslaw3.I64Ring'. -/
def i64RingUptoCard : Claim7 := { stood := { row := i64RingUptoRow, standIns := [], harness := (true, "22c091170d98a91e7953c0cbb7de623c06070e4acc4af2d7f30dec34cf78bd51"), looks := false }, kinds := [], alts := [], laidByText := true, laidKinds := [.data], laidTests := true, laidLooks := .later }
def I64RingUptoCardSaid : Prop := Claim7.holds Tryd.pinned (.plain (OpenSpec.upto i64RingSpec)) i64RingUptoCard

/-- THE SECOND FORM's CARD OF 'peloruslaw3.I64Order'. -/
def i64OrderUptoCard : Claim7 := { stood := { row := i64OrderUptoRow, standIns := [], harness := (true, "22c091170d98a91e7953c0cbb7de623c06070e4acc4af2d7f30dec34cf78bd51"), looks := false }, kinds := [], alts := [], laidByText := true, laidKinds := [.data], laidTests := true, laidLooks := .later }
def I64OrderUptoCardSaid : Prop := Claim7.holds Tryd.pinned (.plain (OpenSpec.upto i64OrderSpec)) i64OrderUptoCard

/-- THE SECOND FORM's CARD OF 'peloruslaw3.I64Logic'. -/
def i64LogicUptoCard : Claim7 := { stood := { row := i64LogicUptoRow, standIns := [], harness := (true, "22c091170d98a91e7953c0cbb7de623c06070e4acc4af2d7f30dec34cf78bd51"), looks := false }, kinds := [], alts := [], laidByText := true, laidKinds := [.data], laidTests := true, laidLooks := .later }
def I64LogicUptoCardSaid : Prop := Claim7.holds Tryd.pinned (.plain (OpenSpec.upto i64LogicSpec)) i64LogicUptoCard

/-- THE SECOND FORM's CARD OF 'peloruslaw3.I64Shifts'. -/
def i64ShiftsUptoCard : Claim7 := { stood := { row := i64ShiftsUptoRow, standIns := [], harness := (true, "22c091170d98a91e7953c0cbb7de623c06070e4acc4af2d7f30dec34cf78bd51"), looks := false }, kinds := [], alts := [], laidByText := true, laidKinds := [.data], laidTests := true, laidLooks := .later }
def I64ShiftsUptoCardSaid : Prop := Claim7.holds Tryd.pinned (.plain (OpenSpec.upto i64ShiftsSpec)) i64ShiftsUptoCard

/-- THE SECOND FORM's CARD OF 'peloruslaw3.I64Counts'. -/
def i64CountsUptoCard : Claim7 := { stood := { row := i64CountsUptoRow, standIns := [], harness := (true, "22c091170d98a91e7953c0cbb7de623c06070e4acc4af2d7f30dec34cf78bd51"), looks := false }, kinds := [], alts := [], laidByText := true, laidKinds := [.data], laidTests := true, laidLooks := .later }
def I64CountsUptoCardSaid : Prop := Claim7.holds Tryd.pinned (.plain (OpenSpec.upto i64CountsSpec)) i64CountsUptoCard

/-- THE SECOND FORM's CARD OF 'peloruslaw3.I64Signs'. -/
def i64SignsUptoCard : Claim7 := { stood := { row := i64SignsUptoRow, standIns := [], harness := (true, "22c091170d98a91e7953c0cbb7de623c06070e4acc4af2d7f30dec34cf78bd51"), looks := false }, kinds := [], alts := [], laidByText := true, laidKinds := [.data], laidTests := true, laidLooks := .later }
def I64SignsUptoCardSaid : Prop := Claim7.holds Tryd.pinned (.plain (OpenSpec.upto i64SignsSpec)) i64SignsUptoCard

/-- THE SECOND FORM's CARD OF 'peloruslaw2.I32All'. -/
def i32AllUptoCard : Claim7 := { stood := { row := i32AllUptoRow, standIns := [], harness := (true, "22c091170d98a91e7953c0cbb7de623c06070e4acc4af2d7f30dec34cf78bd51"), looks := false }, kinds := [], alts := [], laidByText := true, laidKinds := [.data], laidTests := true, laidLooks := .later }
def I32AllUptoCardSaid : Prop := Claim7.holds Tryd.pinned (.plain (OpenSpec.upto i32AllSpec)) i32AllUptoCard

/-- THE SECOND FORM's CARD OF 'peloruslaw2.I32Each'. -/
def i32EachUptoCard : Claim7 := { stood := { row := i32EachUptoRow, standIns := [], harness := (true, "22c091170d98a91e7953c0cbb7de623c06070e4acc4af2d7f30dec34cf78bd51"), looks := false }, kinds := [], alts := [], laidByText := true, laidKinds := [.data], laidTests := true, laidLooks := .later }
def I32EachUptoCardSaid : Prop := Claim7.holds Tryd.pinned (.plain (OpenSpec.upto i32EachSpec)) i32EachUptoCard

/-- THE SECOND FORM's CARD OF 'peloruslaw2.I32Rules'. -/
def i32RulesUptoCard : Claim7 := { stood := { row := i32RulesUptoRow, standIns := [], harness := (true, "22c091170d98a91e7953c0cbb7de623c06070e4acc4af2d7f30dec34cf78bd51"), looks := false }, kinds := [], alts := [], laidByText := true, laidKinds := [.data], laidTests := true, laidLooks := .later }
def I32RulesUptoCardSaid : Prop := Claim7.holds Tryd.pinned (.plain (OpenSpec.upto i32RulesSpec)) i32RulesUptoCard

/-- THE SECOND FORM's CARD OF 'peloruslaw2.I32Ring'. -/
def i32RingUptoCard : Claim7 := { stood := { row := i32RingUptoRow, standIns := [], harness := (true, "22c091170d98a91e7953c0cbb7de623c06070e4acc4af2d7f30dec34cf78bd51"), looks := false }, kinds := [], alts := [], laidByText := true, laidKinds := [.data], laidTests := true, laidLooks := .later }
def I32RingUptoCardSaid : Prop := Claim7.holds Tryd.pinned (.plain (OpenSpec.upto i32RingSpec)) i32RingUptoCard

/-- THE SECOND FORM's CARD OF 'peloruslaw2.I32Order'. -/
def i32OrderUptoCard : Claim7 := { stood := { row := i32OrderUptoRow, standIns := [], harness := (true, "22c091170d98a91e7953c0cbb7de623c06070e4acc4af2d7f30dec34cf78bd51"), looks := false }, kinds := [], alts := [], laidByText := true, laidKinds := [.data], laidTests := true, laidLooks := .later }
def I32OrderUptoCardSaid : Prop := Claim7.holds Tryd.pinned (.plain (OpenSpec.upto i32OrderSpec)) i32OrderUptoCard

/-- THE SECOND FORM's CARD OF 'peloruslaw2.I32Logic'. -/
def i32LogicUptoCard : Claim7 := { stood := { row := i32LogicUptoRow, standIns := [], harness := (true, "22c091170d98a91e7953c0cbb7de623c06070e4acc4af2d7f30dec34cf78bd51"), looks := false }, kinds := [], alts := [], laidByText := true, laidKinds := [.data], laidTests := true, laidLooks := .later }
def I32LogicUptoCardSaid : Prop := Claim7.holds Tryd.pinned (.plain (OpenSpec.upto i32LogicSpec)) i32LogicUptoCard

/-- THE SECOND FORM's CARD OF 'peloruslaw2.I32Shifts'. -/
def i32ShiftsUptoCard : Claim7 := { stood := { row := i32ShiftsUptoRow, standIns := [], harness := (true, "22c091170d98a91e7953c0cbb7de623c06070e4acc4af2d7f30dec34cf78bd51"), looks := false }, kinds := [], alts := [], laidByText := true, laidKinds := [.data], laidTests := true, laidLooks := .later }
def I32ShiftsUptoCardSaid : Prop := Claim7.holds Tryd.pinned (.plain (OpenSpec.upto i32ShiftsSpec)) i32ShiftsUptoCard

/-- THE SECOND FORM's CARD OF 'peloruslaw2.I32Counts'. -/
def i32CountsUptoCard : Claim7 := { stood := { row := i32CountsUptoRow, standIns := [], harness := (true, "22c091170d98a91e7953c0cbb7de623c06070e4acc4af2d7f30dec34cf78bd51"), looks := false }, kinds := [], alts := [], laidByText := true, laidKinds := [.data], laidTests := true, laidLooks := .later }
def I32CountsUptoCardSaid : Prop := Claim7.holds Tryd.pinned (.plain (OpenSpec.upto i32CountsSpec)) i32CountsUptoCard

/-- THE SECOND FORM's CARD OF 'peloruslaw2.I32Signs'. -/
def i32SignsUptoCard : Claim7 := { stood := { row := i32SignsUptoRow, standIns := [], harness := (true, "22c091170d98a91e7953c0cbb7de623c06070e4acc4af2d7f30dec34cf78bd51"), looks := false }, kinds := [], alts := [], laidByText := true, laidKinds := [.data], laidTests := true, laidLooks := .later }
def I32SignsUptoCardSaid : Prop := Claim7.holds Tryd.pinned (.plain (OpenSpec.upto i32SignsSpec)) i32SignsUptoCard
end Rows
end Go.Proofs.YtdmdjhmaanhocaaDoor
