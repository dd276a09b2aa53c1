/-
  DERIVED. GIVEN WITH THE SEED: THE CARDS: each row of YtnhcjpmamgdeoaaDoorRows.lean that lists a variable, with what it lists TIED to the program's text (the seventh form; the later family's looks); each row that meets fmt, with fmt's text TOLD by the authors' own Lean function (tested against real Go, not proved from fmt's source: count such statements apart). THE CARD IS WHAT COUNTS. Prove the row's statement (the work); the ties are given (YtnhcjpmamgdeoaaDoorTie.lean); close each card by the builder's one call (the guide's Derived/Test/ToyasCard.lean, 'card_holds'). Laid BY PROGRAM, IN A SANDBOX (cutbox-door.mjs). By AI agents, Wed Nov 11 2026. No macro, syntax, notation, axiom, sorry.
-/
import Derived.Test.YtnhcjpmamgdeoaaDoorRows
import GoSem.ClaimSeven
namespace Go.Proofs.YtnhcjpmamgdeoaaDoor
namespace Rows

/-- THE TIED CARD OF 'wicketgatelaw4.TruthDiagrams'. -/
def truthDiagramsCard : Claim7 := { stood := { row := truthDiagramsRow, standIns := [], harness := (true, "58fcdd60b44f31b28f3ab2f5f9bc41ae6600f0962f0fe37c6d5ad19494622c99"), looks := true }, kinds := [], alts := [], laidByText := true, laidKinds := [.handle], laidTests := true, laidLooks := .later }
def TruthDiagramsCardSaid : Prop := Claim7.holds Tryd.pinned (.plain (OpenSpec.ofChange truthDiagramsSpec)) truthDiagramsCard

/-- THE TIED CARD OF 'wicketgatelaw4.TruthTables'. -/
def truthTablesCard : Claim7 := { stood := { row := truthTablesRow, standIns := [], harness := (true, "58fcdd60b44f31b28f3ab2f5f9bc41ae6600f0962f0fe37c6d5ad19494622c99"), looks := true }, kinds := [], alts := [], laidByText := true, laidKinds := [.handle], laidTests := true, laidLooks := .later }
def TruthTablesCardSaid : Prop := Claim7.holds Tryd.pinned (.plain (OpenSpec.ofChange truthTablesSpec)) truthTablesCard

/-- THE SECOND FORM's CARD OF 'wicketgatelaw4.TruthDiagrams'. -/
def truthDiagramsUptoCard : Claim7 := { stood := { row := truthDiagramsUptoRow, standIns := [], harness := (true, "58fcdd60b44f31b28f3ab2f5f9bc41ae6600f0962f0fe37c6d5ad19494622c99"), looks := true }, kinds := [], alts := [], laidByText := true, laidKinds := [.handle], laidTests := true, laidLooks := .later }
def TruthDiagramsUptoCardSaid : Prop := Claim7.holds Tryd.pinned (.plain (OpenSpec.upto truthDiagramsSpec)) truthDiagramsUptoCard

/-- THE SECOND FORM's CARD OF 'wicketgatelaw4.TruthTables'. -/
def truthTablesUptoCard : Claim7 := { stood := { row := truthTablesUptoRow, standIns := [], harness := (true, "58fcdd60b44f31b28f3ab2f5f9bc41ae6600f0962f0fe37c6d5ad19494622c99"), looks := true }, kinds := [], alts := [], laidByText := true, laidKinds := [.handle], laidTests := true, laidLooks := .later }
def TruthTablesUptoCardSaid : Prop := Claim7.holds Tryd.pinned (.plain (OpenSpec.upto truthTablesSpec)) truthTablesUptoCard
end Rows
end Go.Proofs.YtnhcjpmamgdeoaaDoor
