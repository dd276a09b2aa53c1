/-
  DERIVED. GIVEN WITH THE SEED: THE CARDS: each row of YtbommoefpekalaaGreatDoorRows.lean that lists a variable, with what it lists TIED to the program's text (the seventh form; the later family's looks); each row that meets fmt, with fmt's text TOLD by the authors' own Lean function (tested against real Go, not proved from fmt's source: count such statements apart). THE CARD IS WHAT COUNTS. Prove the row's statement (the work); the ties are given (YtbommoefpekalaaGreatDoorTie.lean); close each card by the builder's one call (the guide's Derived/Test/ToyasCard.lean, 'card_holds'). Laid BY PROGRAM, IN A SANDBOX (cutbox-door.mjs). By AI agents, Wed Nov 11 2026. No macro, syntax, notation, axiom, sorry.
-/
import Derived.Test.YtbommoefpekalaaGreatDoorRows
import GoSem.ClaimSeven
namespace Go.Proofs.YtbommoefpekalaaGreatDoor
namespace Rows

/-- THE TIED CARD OF 'wicketgatelaw2.WordSpells'. -/
def wordSpellsCard : Claim7 := { stood := { row := wordSpellsRow, standIns := [], harness := (true, "ad61f2134246ad48e98bc5c46c8ccacd8ba3e55ff7229feb9a7098e727729516"), looks := true }, kinds := [], alts := [], laidByText := true, laidKinds := [.data, .handle, .pinned], laidTests := true, laidLooks := .later }
def WordSpellsCardSaid : Prop := Claim7.holds Tryz.pinned (.plain (OpenSpec.ofChange wordSpellsSpec)) wordSpellsCard

/-- THE TIED CARD OF 'wicketgatelaw2.WordBack'. -/
def wordBackCard : Claim7 := { stood := { row := wordBackRow, standIns := [], harness := (true, "ad61f2134246ad48e98bc5c46c8ccacd8ba3e55ff7229feb9a7098e727729516"), looks := true }, kinds := [], alts := [], laidByText := true, laidKinds := [.data, .handle, .pinned], laidTests := true, laidLooks := .later }
def WordBackCardSaid : Prop := Claim7.holds Tryz.pinned (.plain (OpenSpec.ofChange wordBackSpec)) wordBackCard

/-- THE TIED CARD OF 'wicketgatelaw4.LinkFills'. -/
def linkFillsCard : Claim7 := { stood := { row := linkFillsRow, standIns := [], harness := (true, "ad61f2134246ad48e98bc5c46c8ccacd8ba3e55ff7229feb9a7098e727729516"), looks := true }, kinds := [], alts := [], laidByText := true, laidKinds := [.handle], laidTests := true, laidLooks := .later }
def LinkFillsCardSaid : Prop := Claim7.holds Tryz.pinned (.plain (OpenSpec.ofChange linkFillsSpec)) linkFillsCard

/-- THE TIED CARD OF 'wicketgatelaw4.PolExprs'. -/
def polExprsCard : Claim7 := { stood := { row := polExprsRow, standIns := [], harness := (true, "ad61f2134246ad48e98bc5c46c8ccacd8ba3e55ff7229feb9a7098e727729516"), looks := true }, kinds := [], alts := [], laidByText := true, laidKinds := [.handle], laidTests := true, laidLooks := .later }
def PolExprsCardSaid : Prop := Claim7.holds Tryz.pinned (.plain (OpenSpec.ofChange polExprsSpec)) polExprsCard

/-- THE SECOND FORM's CARD OF 'wicketgatelaw2.WordSpells'. -/
def wordSpellsUptoCard : Claim7 := { stood := { row := wordSpellsUptoRow, standIns := [], harness := (true, "ad61f2134246ad48e98bc5c46c8ccacd8ba3e55ff7229feb9a7098e727729516"), looks := true }, kinds := [], alts := [], laidByText := true, laidKinds := [.data, .handle, .pinned], laidTests := true, laidLooks := .later }
def WordSpellsUptoCardSaid : Prop := Claim7.holds Tryz.pinned (.plain (OpenSpec.upto wordSpellsSpec)) wordSpellsUptoCard

/-- THE SECOND FORM's CARD OF 'wicketgatelaw2.WordBack'. -/
def wordBackUptoCard : Claim7 := { stood := { row := wordBackUptoRow, standIns := [], harness := (true, "ad61f2134246ad48e98bc5c46c8ccacd8ba3e55ff7229feb9a7098e727729516"), looks := true }, kinds := [], alts := [], laidByText := true, laidKinds := [.data, .handle, .pinned], laidTests := true, laidLooks := .later }
def WordBackUptoCardSaid : Prop := Claim7.holds Tryz.pinned (.plain (OpenSpec.upto wordBackSpec)) wordBackUptoCard

/-- THE SECOND FORM's CARD OF 'wicketgatelaw4.LinkFills'. -/
def linkFillsUptoCard : Claim7 := { stood := { row := linkFillsUptoRow, standIns := [], harness := (true, "ad61f2134246ad48e98bc5c46c8ccacd8ba3e55ff7229feb9a7098e727729516"), looks := true }, kinds := [], alts := [], laidByText := true, laidKinds := [.handle], laidTests := true, laidLooks := .later }
def LinkFillsUptoCardSaid : Prop := Claim7.holds Tryz.pinned (.plain (OpenSpec.upto linkFillsSpec)) linkFillsUptoCard

/-- THE SECOND FORM's CARD OF 'wicketgatelaw4.PolExprs'. -/
def polExprsUptoCard : Claim7 := { stood := { row := polExprsUptoRow, standIns := [], harness := (true, "ad61f2134246ad48e98bc5c46c8ccacd8ba3e55ff7229feb9a7098e727729516"), looks := true }, kinds := [], alts := [], laidByText := true, laidKinds := [.handle], laidTests := true, laidLooks := .later }
def PolExprsUptoCardSaid : Prop := Claim7.holds Tryz.pinned (.plain (OpenSpec.upto polExprsSpec)) polExprsUptoCard
end Rows
end Go.Proofs.YtbommoefpekalaaGreatDoor
