/-
  DERIVED. GIVEN WITH THE SEED: THE CARDS: each row of YtndojpcjhkncgaaGreatDoorRows.lean that lists a variable, with what it lists TIED to the program's text (the seventh form; the later family's looks); each row that meets fmt, with fmt's text TOLD by the authors' own Lean function (tested against real Go, not proved from fmt's source: count such statements apart). THE CARD IS WHAT COUNTS. Prove the row's statement (the work); the ties are given (YtndojpcjhkncgaaGreatDoorTie.lean); close each card by the builder's one call (the guide's Derived/Test/ToyasCard.lean, 'card_holds'). Laid BY PROGRAM, IN A SANDBOX (cutbox-door.mjs). By AI agents, Wed Nov 11 2026. No macro, syntax, notation, axiom, sorry.
-/
import Derived.Test.YtndojpcjhkncgaaGreatDoorRows
import GoSem.ClaimSeven
namespace Go.Proofs.YtndojpcjhkncgaaGreatDoor
namespace Rows

/-- THE TIED CARD OF 'annuitantlaw36.BankReads'. -/
def bankReadsCard : Claim7 := { stood := { row := bankReadsRow, standIns := [], harness := (true, "27510c1aaa7a1259457b86a3a103c5eb279a9d3ea5c66470a8b13e49e59fa2d1"), looks := true }, kinds := [], alts := [], laidByText := true, laidKinds := [.data, .data, .data, .data, .sentinel, .sentinel, .pinned], laidTests := true, laidLooks := .later }
def BankReadsCardSaid : Prop := Claim7.holds Tryz.pinned (.plain (OpenSpec.ofChange bankReadsSpec)) bankReadsCard

/-- THE TIED CARD OF 'annuitantlaw36.BankSmall'. -/
def bankSmallCard : Claim7 := { stood := { row := bankSmallRow, standIns := [], harness := (true, "27510c1aaa7a1259457b86a3a103c5eb279a9d3ea5c66470a8b13e49e59fa2d1"), looks := true }, kinds := [], alts := [], laidByText := true, laidKinds := [.data, .data, .data, .data, .sentinel, .sentinel, .pinned], laidTests := true, laidLooks := .later }
def BankSmallCardSaid : Prop := Claim7.holds Tryz.pinned (.plain (OpenSpec.ofChange bankSmallSpec)) bankSmallCard

/-- THE TIED CARD OF 'annuitantlaw36.BankChanged'. -/
def bankChangedCard : Claim7 := { stood := { row := bankChangedRow, standIns := [], harness := (true, "27510c1aaa7a1259457b86a3a103c5eb279a9d3ea5c66470a8b13e49e59fa2d1"), looks := true }, kinds := [], alts := [], laidByText := true, laidKinds := [.data, .data, .data, .data, .sentinel, .sentinel, .pinned], laidTests := true, laidLooks := .later }
def BankChangedCardSaid : Prop := Claim7.holds Tryz.pinned (.plain (OpenSpec.ofChange bankChangedSpec)) bankChangedCard

/-- THE TIED CARD OF 'annuitantlaw36.BankSwapped'. -/
def bankSwappedCard : Claim7 := { stood := { row := bankSwappedRow, standIns := [], harness := (true, "27510c1aaa7a1259457b86a3a103c5eb279a9d3ea5c66470a8b13e49e59fa2d1"), looks := true }, kinds := [], alts := [], laidByText := true, laidKinds := [.data, .data, .data, .data, .sentinel, .sentinel, .pinned], laidTests := true, laidLooks := .later }
def BankSwappedCardSaid : Prop := Claim7.holds Tryz.pinned (.plain (OpenSpec.ofChange bankSwappedSpec)) bankSwappedCard

/-- THE TIED CARD OF 'annuitantlaw36.BankBack'. -/
def bankBackCard : Claim7 := { stood := { row := bankBackRow, standIns := [], harness := (true, "27510c1aaa7a1259457b86a3a103c5eb279a9d3ea5c66470a8b13e49e59fa2d1"), looks := true }, kinds := [], alts := [], laidByText := true, laidKinds := [.data, .data, .data, .data, .sentinel, .sentinel, .pinned], laidTests := true, laidLooks := .later }
def BankBackCardSaid : Prop := Claim7.holds Tryz.pinned (.plain (OpenSpec.ofChange bankBackSpec)) bankBackCard

/-- THE TIED CARD OF 'annuitantlaw36.BankOnly'. -/
def bankOnlyCard : Claim7 := { stood := { row := bankOnlyRow, standIns := [], harness := (true, "27510c1aaa7a1259457b86a3a103c5eb279a9d3ea5c66470a8b13e49e59fa2d1"), looks := true }, kinds := [], alts := [], laidByText := true, laidKinds := [.data, .data, .data, .data, .sentinel, .sentinel, .pinned], laidTests := true, laidLooks := .later }
def BankOnlyCardSaid : Prop := Claim7.holds Tryz.pinned (.plain (OpenSpec.ofChange bankOnlySpec)) bankOnlyCard

/-- THE SECOND FORM's CARD OF 'annuitantlaw36.BankReads'. -/
def bankReadsUptoCard : Claim7 := { stood := { row := bankReadsUptoRow, standIns := [], harness := (true, "27510c1aaa7a1259457b86a3a103c5eb279a9d3ea5c66470a8b13e49e59fa2d1"), looks := true }, kinds := [], alts := [], laidByText := true, laidKinds := [.data, .data, .data, .data, .sentinel, .sentinel, .pinned], laidTests := true, laidLooks := .later }
def BankReadsUptoCardSaid : Prop := Claim7.holds Tryz.pinned (.plain (OpenSpec.upto bankReadsSpec)) bankReadsUptoCard

/-- THE SECOND FORM's CARD OF 'annuitantlaw36.BankSmall'. -/
def bankSmallUptoCard : Claim7 := { stood := { row := bankSmallUptoRow, standIns := [], harness := (true, "27510c1aaa7a1259457b86a3a103c5eb279a9d3ea5c66470a8b13e49e59fa2d1"), looks := true }, kinds := [], alts := [], laidByText := true, laidKinds := [.data, .data, .data, .data, .sentinel, .sentinel, .pinned], laidTests := true, laidLooks := .later }
def BankSmallUptoCardSaid : Prop := Claim7.holds Tryz.pinned (.plain (OpenSpec.upto bankSmallSpec)) bankSmallUptoCard

/-- THE SECOND FORM's CARD OF 'annuitantlaw36.BankChanged'. -/
def bankChangedUptoCard : Claim7 := { stood := { row := bankChangedUptoRow, standIns := [], harness := (true, "27510c1aaa7a1259457b86a3a103c5eb279a9d3ea5c66470a8b13e49e59fa2d1"), looks := true }, kinds := [], alts := [], laidByText := true, laidKinds := [.data, .data, .data, .data, .sentinel, .sentinel, .pinned], laidTests := true, laidLooks := .later }
def BankChangedUptoCardSaid : Prop := Claim7.holds Tryz.pinned (.plain (OpenSpec.upto bankChangedSpec)) bankChangedUptoCard

/-- THE SECOND FORM's CARD OF 'annuitantlaw36.BankSwapped'. -/
def bankSwappedUptoCard : Claim7 := { stood := { row := bankSwappedUptoRow, standIns := [], harness := (true, "27510c1aaa7a1259457b86a3a103c5eb279a9d3ea5c66470a8b13e49e59fa2d1"), looks := true }, kinds := [], alts := [], laidByText := true, laidKinds := [.data, .data, .data, .data, .sentinel, .sentinel, .pinned], laidTests := true, laidLooks := .later }
def BankSwappedUptoCardSaid : Prop := Claim7.holds Tryz.pinned (.plain (OpenSpec.upto bankSwappedSpec)) bankSwappedUptoCard

/-- THE SECOND FORM's CARD OF 'annuitantlaw36.BankBack'. -/
def bankBackUptoCard : Claim7 := { stood := { row := bankBackUptoRow, standIns := [], harness := (true, "27510c1aaa7a1259457b86a3a103c5eb279a9d3ea5c66470a8b13e49e59fa2d1"), looks := true }, kinds := [], alts := [], laidByText := true, laidKinds := [.data, .data, .data, .data, .sentinel, .sentinel, .pinned], laidTests := true, laidLooks := .later }
def BankBackUptoCardSaid : Prop := Claim7.holds Tryz.pinned (.plain (OpenSpec.upto bankBackSpec)) bankBackUptoCard

/-- THE SECOND FORM's CARD OF 'annuitantlaw36.BankOnly'. -/
def bankOnlyUptoCard : Claim7 := { stood := { row := bankOnlyUptoRow, standIns := [], harness := (true, "27510c1aaa7a1259457b86a3a103c5eb279a9d3ea5c66470a8b13e49e59fa2d1"), looks := true }, kinds := [], alts := [], laidByText := true, laidKinds := [.data, .data, .data, .data, .sentinel, .sentinel, .pinned], laidTests := true, laidLooks := .later }
def BankOnlyUptoCardSaid : Prop := Claim7.holds Tryz.pinned (.plain (OpenSpec.upto bankOnlySpec)) bankOnlyUptoCard
end Rows
end Go.Proofs.YtndojpcjhkncgaaGreatDoor
