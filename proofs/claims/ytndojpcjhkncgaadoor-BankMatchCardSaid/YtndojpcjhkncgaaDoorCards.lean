/-
  DERIVED. GIVEN WITH THE SEED: THE CARDS: each row of YtndojpcjhkncgaaDoorRows.lean that lists a variable, with what it lists TIED to the program's text (the seventh form; the later family's looks); each row that meets fmt, with fmt's text TOLD by the authors' own Lean function (tested against real Go, not proved from fmt's source: count such statements apart). THE CARD IS WHAT COUNTS. Prove the row's statement (the work); the ties are given (YtndojpcjhkncgaaDoorTie.lean); close each card by the builder's one call (the guide's Derived/Test/ToyasCard.lean, 'card_holds'). Laid BY PROGRAM, IN A SANDBOX (cutbox-door.mjs). By AI agents, Wed Nov 11 2026. No macro, syntax, notation, axiom, sorry.
-/
import Derived.Test.YtndojpcjhkncgaaDoorRows
import GoSem.ClaimSeven
namespace Go.Proofs.YtndojpcjhkncgaaDoor
namespace Rows

/-- THE TIED CARD OF 'annuitantlaw36.BankTells'. -/
def bankTellsCard : Claim7 := { stood := { row := bankTellsRow, standIns := [], harness := (true, "82edebc1f9660605734db6486554e1fba2624fd5225fe9a3f65d3c5b87dd7fe1"), looks := false }, kinds := [], alts := [], laidByText := true, laidKinds := [.data, .data, .data], laidTests := true, laidLooks := .later }
def BankTellsCardSaid : Prop := Claim7.holds Tryd.pinned (.plain (OpenSpec.ofChange bankTellsSpec)) bankTellsCard

/-- THE TIED CARD OF 'annuitantlaw36.BankMatch'. -/
def bankMatchCard : Claim7 := { stood := { row := bankMatchRow, standIns := [], harness := (true, "82edebc1f9660605734db6486554e1fba2624fd5225fe9a3f65d3c5b87dd7fe1"), looks := false }, kinds := [], alts := [], laidByText := true, laidKinds := [.data, .data, .data], laidTests := true, laidLooks := .later }
def BankMatchCardSaid : Prop := Claim7.holds Tryd.pinned (.plain (OpenSpec.ofChange bankMatchSpec)) bankMatchCard

/-- THE SECOND FORM's CARD OF 'annuitantlaw36.BankTells'. -/
def bankTellsUptoCard : Claim7 := { stood := { row := bankTellsUptoRow, standIns := [], harness := (true, "82edebc1f9660605734db6486554e1fba2624fd5225fe9a3f65d3c5b87dd7fe1"), looks := false }, kinds := [], alts := [], laidByText := true, laidKinds := [.data, .data, .data], laidTests := true, laidLooks := .later }
def BankTellsUptoCardSaid : Prop := Claim7.holds Tryd.pinned (.plain (OpenSpec.upto bankTellsSpec)) bankTellsUptoCard

/-- THE SECOND FORM's CARD OF 'annuitantlaw36.BankMatch'. -/
def bankMatchUptoCard : Claim7 := { stood := { row := bankMatchUptoRow, standIns := [], harness := (true, "82edebc1f9660605734db6486554e1fba2624fd5225fe9a3f65d3c5b87dd7fe1"), looks := false }, kinds := [], alts := [], laidByText := true, laidKinds := [.data, .data, .data], laidTests := true, laidLooks := .later }
def BankMatchUptoCardSaid : Prop := Claim7.holds Tryd.pinned (.plain (OpenSpec.upto bankMatchSpec)) bankMatchUptoCard
end Rows
end Go.Proofs.YtndojpcjhkncgaaDoor
