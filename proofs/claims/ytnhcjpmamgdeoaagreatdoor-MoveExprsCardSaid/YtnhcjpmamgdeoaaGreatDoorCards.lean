/-
  DERIVED. GIVEN WITH THE SEED: THE CARDS: each row of YtnhcjpmamgdeoaaGreatDoorRows.lean that lists a variable, with what it lists TIED to the program's text (the seventh form; the later family's looks); each row that meets fmt, with fmt's text TOLD by the authors' own Lean function (tested against real Go, not proved from fmt's source: count such statements apart). THE CARD IS WHAT COUNTS. Prove the row's statement (the work); the ties are given (YtnhcjpmamgdeoaaGreatDoorTie.lean); close each card by the builder's one call (the guide's Derived/Test/ToyasCard.lean, 'card_holds'). Laid BY PROGRAM, IN A SANDBOX (cutbox-door.mjs). By AI agents, Wed Nov 11 2026. No macro, syntax, notation, axiom, sorry.
-/
import Derived.Test.YtnhcjpmamgdeoaaGreatDoorRows
import GoSem.ClaimSeven
namespace Go.Proofs.YtnhcjpmamgdeoaaGreatDoor
namespace Rows

/-- THE TIED CARD OF 'wicketgatelaw4.MoveExprs'. -/
def moveExprsCard : Claim7 := { stood := { row := moveExprsRow, standIns := [], harness := (true, "9ab1b9a9fe3dbda4ee2206366dc9b0e0325f30166dbf50ed638213bb9f728959"), looks := true }, kinds := [], alts := [], laidByText := true, laidKinds := [.handle], laidTests := true, laidLooks := .later }
def MoveExprsCardSaid : Prop := Claim7.holds Tryz.pinned (.plain (OpenSpec.ofChange moveExprsSpec)) moveExprsCard

/-- THE TIED CARD OF 'wicketgatelaw4.MoveStores'. -/
def moveStoresCard : Claim7 := { stood := { row := moveStoresRow, standIns := [], harness := (true, "9ab1b9a9fe3dbda4ee2206366dc9b0e0325f30166dbf50ed638213bb9f728959"), looks := true }, kinds := [], alts := [], laidByText := true, laidKinds := [.handle], laidTests := true, laidLooks := .later }
def MoveStoresCardSaid : Prop := Claim7.holds Tryz.pinned (.plain (OpenSpec.ofChange moveStoresSpec)) moveStoresCard

/-- THE SECOND FORM's CARD OF 'wicketgatelaw4.MoveExprs'. -/
def moveExprsUptoCard : Claim7 := { stood := { row := moveExprsUptoRow, standIns := [], harness := (true, "9ab1b9a9fe3dbda4ee2206366dc9b0e0325f30166dbf50ed638213bb9f728959"), looks := true }, kinds := [], alts := [], laidByText := true, laidKinds := [.handle], laidTests := true, laidLooks := .later }
def MoveExprsUptoCardSaid : Prop := Claim7.holds Tryz.pinned (.plain (OpenSpec.upto moveExprsSpec)) moveExprsUptoCard

/-- THE SECOND FORM's CARD OF 'wicketgatelaw4.MoveStores'. -/
def moveStoresUptoCard : Claim7 := { stood := { row := moveStoresUptoRow, standIns := [], harness := (true, "9ab1b9a9fe3dbda4ee2206366dc9b0e0325f30166dbf50ed638213bb9f728959"), looks := true }, kinds := [], alts := [], laidByText := true, laidKinds := [.handle], laidTests := true, laidLooks := .later }
def MoveStoresUptoCardSaid : Prop := Claim7.holds Tryz.pinned (.plain (OpenSpec.upto moveStoresSpec)) moveStoresUptoCard
end Rows
end Go.Proofs.YtnhcjpmamgdeoaaGreatDoor
