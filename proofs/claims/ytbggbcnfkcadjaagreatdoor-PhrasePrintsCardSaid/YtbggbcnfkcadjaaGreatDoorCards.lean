/-
  DERIVED. GIVEN WITH THE SEED: THE CARDS: each row of YtbggbcnfkcadjaaGreatDoorRows.lean that lists a variable, with what it lists TIED to the program's text (the seventh form; the later family's looks); each row that meets fmt, with fmt's text TOLD by the authors' own Lean function (tested against real Go, not proved from fmt's source: count such statements apart). THE CARD IS WHAT COUNTS. Prove the row's statement (the work); the ties are given (YtbggbcnfkcadjaaGreatDoorTie.lean); close each card by the builder's one call (the guide's Derived/Test/ToyasCard.lean, 'card_holds'). Laid BY PROGRAM, IN A SANDBOX (cutbox-door.mjs). By AI agents, Wed Nov 11 2026. No macro, syntax, notation, axiom, sorry.
-/
import Derived.Test.YtbggbcnfkcadjaaGreatDoorRows
import GoSem.ClaimSeven
namespace Go.Proofs.YtbggbcnfkcadjaaGreatDoor
namespace Rows

/-- THE TIED CARD OF 'wicketgatelaw2.PhrasePrints'. -/
def phrasePrintsCard : Claim7 := { stood := { row := phrasePrintsRow, standIns := [], harness := (true, "22462f34d2c07f8702a20cb967daf64ca85056cec080d783f5a7e3336608c5cb"), looks := true }, kinds := [], alts := [], laidByText := true, laidKinds := [.data, .data, .data, .handle], laidTests := true, laidLooks := .later }
def PhrasePrintsCardSaid : Prop := Claim7.holds Tryz.pinned (.plain (OpenSpec.ofChange phrasePrintsSpec)) phrasePrintsCard

/-- THE TIED CARD OF 'wicketgatelaw2.PhraseBrackets'. -/
def phraseBracketsCard : Claim7 := { stood := { row := phraseBracketsRow, standIns := [], harness := (true, "22462f34d2c07f8702a20cb967daf64ca85056cec080d783f5a7e3336608c5cb"), looks := true }, kinds := [], alts := [], laidByText := true, laidKinds := [.data, .data, .data, .data, .sentinel, .sentinel, .pinned], laidTests := true, laidLooks := .later }
def PhraseBracketsCardSaid : Prop := Claim7.holds Tryz.pinned (.plain (OpenSpec.ofChange phraseBracketsSpec)) phraseBracketsCard

/-- THE TIED CARD OF 'wicketgatelaw2.PhraseLeft'. -/
def phraseLeftCard : Claim7 := { stood := { row := phraseLeftRow, standIns := [], harness := (true, "22462f34d2c07f8702a20cb967daf64ca85056cec080d783f5a7e3336608c5cb"), looks := true }, kinds := [], alts := [], laidByText := true, laidKinds := [.data, .data, .data, .data, .sentinel, .sentinel, .pinned], laidTests := true, laidLooks := .later }
def PhraseLeftCardSaid : Prop := Claim7.holds Tryz.pinned (.plain (OpenSpec.ofChange phraseLeftSpec)) phraseLeftCard

/-- THE TIED CARD OF 'wicketgatelaw2.PhraseParses'. -/
def phraseParsesCard : Claim7 := { stood := { row := phraseParsesRow, standIns := [], harness := (true, "22462f34d2c07f8702a20cb967daf64ca85056cec080d783f5a7e3336608c5cb"), looks := true }, kinds := [], alts := [], laidByText := true, laidKinds := [.data, .data, .data, .data, .handle, .sentinel, .sentinel, .pinned], laidTests := true, laidLooks := .later }
def PhraseParsesCardSaid : Prop := Claim7.holds Tryz.pinned (.plain (OpenSpec.ofChange phraseParsesSpec)) phraseParsesCard

/-- THE TIED CARD OF 'wicketgatelaw2.PhraseSoon'. -/
def phraseSoonCard : Claim7 := { stood := { row := phraseSoonRow, standIns := [], harness := (true, "22462f34d2c07f8702a20cb967daf64ca85056cec080d783f5a7e3336608c5cb"), looks := true }, kinds := [], alts := [], laidByText := true, laidKinds := [.data, .data, .data, .data, .handle, .sentinel, .sentinel, .pinned], laidTests := true, laidLooks := .later }
def PhraseSoonCardSaid : Prop := Claim7.holds Tryz.pinned (.plain (OpenSpec.ofChange phraseSoonSpec)) phraseSoonCard

/-- THE TIED CARD OF 'wicketgatelaw2.PhraseBack'. -/
def phraseBackCard : Claim7 := { stood := { row := phraseBackRow, standIns := [], harness := (true, "22462f34d2c07f8702a20cb967daf64ca85056cec080d783f5a7e3336608c5cb"), looks := true }, kinds := [], alts := [], laidByText := true, laidKinds := [.data, .data, .data, .data, .sentinel, .sentinel, .pinned], laidTests := true, laidLooks := .later }
def PhraseBackCardSaid : Prop := Claim7.holds Tryz.pinned (.plain (OpenSpec.ofChange phraseBackSpec)) phraseBackCard

/-- THE TIED CARD OF 'wicketgatelaw2.PhraseNumbers'. -/
def phraseNumbersCard : Claim7 := { stood := { row := phraseNumbersRow, standIns := [], harness := (true, "22462f34d2c07f8702a20cb967daf64ca85056cec080d783f5a7e3336608c5cb"), looks := true }, kinds := [], alts := [], laidByText := true, laidKinds := [.data, .data, .data, .data, .sentinel, .sentinel, .pinned], laidTests := true, laidLooks := .later }
def PhraseNumbersCardSaid : Prop := Claim7.holds Tryz.pinned (.plain (OpenSpec.ofChange phraseNumbersSpec)) phraseNumbersCard

/-- THE SECOND FORM's CARD OF 'wicketgatelaw2.PhrasePrints'. -/
def phrasePrintsUptoCard : Claim7 := { stood := { row := phrasePrintsUptoRow, standIns := [], harness := (true, "22462f34d2c07f8702a20cb967daf64ca85056cec080d783f5a7e3336608c5cb"), looks := true }, kinds := [], alts := [], laidByText := true, laidKinds := [.data, .data, .data, .handle], laidTests := true, laidLooks := .later }
def PhrasePrintsUptoCardSaid : Prop := Claim7.holds Tryz.pinned (.plain (OpenSpec.upto phrasePrintsSpec)) phrasePrintsUptoCard

/-- THE SECOND FORM's CARD OF 'wicketgatelaw2.PhraseBrackets'. -/
def phraseBracketsUptoCard : Claim7 := { stood := { row := phraseBracketsUptoRow, standIns := [], harness := (true, "22462f34d2c07f8702a20cb967daf64ca85056cec080d783f5a7e3336608c5cb"), looks := true }, kinds := [], alts := [], laidByText := true, laidKinds := [.data, .data, .data, .data, .sentinel, .sentinel, .pinned], laidTests := true, laidLooks := .later }
def PhraseBracketsUptoCardSaid : Prop := Claim7.holds Tryz.pinned (.plain (OpenSpec.upto phraseBracketsSpec)) phraseBracketsUptoCard

/-- THE SECOND FORM's CARD OF 'wicketgatelaw2.PhraseLeft'. -/
def phraseLeftUptoCard : Claim7 := { stood := { row := phraseLeftUptoRow, standIns := [], harness := (true, "22462f34d2c07f8702a20cb967daf64ca85056cec080d783f5a7e3336608c5cb"), looks := true }, kinds := [], alts := [], laidByText := true, laidKinds := [.data, .data, .data, .data, .sentinel, .sentinel, .pinned], laidTests := true, laidLooks := .later }
def PhraseLeftUptoCardSaid : Prop := Claim7.holds Tryz.pinned (.plain (OpenSpec.upto phraseLeftSpec)) phraseLeftUptoCard

/-- THE SECOND FORM's CARD OF 'wicketgatelaw2.PhraseParses'. -/
def phraseParsesUptoCard : Claim7 := { stood := { row := phraseParsesUptoRow, standIns := [], harness := (true, "22462f34d2c07f8702a20cb967daf64ca85056cec080d783f5a7e3336608c5cb"), looks := true }, kinds := [], alts := [], laidByText := true, laidKinds := [.data, .data, .data, .data, .handle, .sentinel, .sentinel, .pinned], laidTests := true, laidLooks := .later }
def PhraseParsesUptoCardSaid : Prop := Claim7.holds Tryz.pinned (.plain (OpenSpec.upto phraseParsesSpec)) phraseParsesUptoCard

/-- THE SECOND FORM's CARD OF 'wicketgatelaw2.PhraseSoon'. -/
def phraseSoonUptoCard : Claim7 := { stood := { row := phraseSoonUptoRow, standIns := [], harness := (true, "22462f34d2c07f8702a20cb967daf64ca85056cec080d783f5a7e3336608c5cb"), looks := true }, kinds := [], alts := [], laidByText := true, laidKinds := [.data, .data, .data, .data, .handle, .sentinel, .sentinel, .pinned], laidTests := true, laidLooks := .later }
def PhraseSoonUptoCardSaid : Prop := Claim7.holds Tryz.pinned (.plain (OpenSpec.upto phraseSoonSpec)) phraseSoonUptoCard

/-- THE SECOND FORM's CARD OF 'wicketgatelaw2.PhraseBack'. -/
def phraseBackUptoCard : Claim7 := { stood := { row := phraseBackUptoRow, standIns := [], harness := (true, "22462f34d2c07f8702a20cb967daf64ca85056cec080d783f5a7e3336608c5cb"), looks := true }, kinds := [], alts := [], laidByText := true, laidKinds := [.data, .data, .data, .data, .sentinel, .sentinel, .pinned], laidTests := true, laidLooks := .later }
def PhraseBackUptoCardSaid : Prop := Claim7.holds Tryz.pinned (.plain (OpenSpec.upto phraseBackSpec)) phraseBackUptoCard

/-- THE SECOND FORM's CARD OF 'wicketgatelaw2.PhraseNumbers'. -/
def phraseNumbersUptoCard : Claim7 := { stood := { row := phraseNumbersUptoRow, standIns := [], harness := (true, "22462f34d2c07f8702a20cb967daf64ca85056cec080d783f5a7e3336608c5cb"), looks := true }, kinds := [], alts := [], laidByText := true, laidKinds := [.data, .data, .data, .data, .sentinel, .sentinel, .pinned], laidTests := true, laidLooks := .later }
def PhraseNumbersUptoCardSaid : Prop := Claim7.holds Tryz.pinned (.plain (OpenSpec.upto phraseNumbersSpec)) phraseNumbersUptoCard
end Rows
end Go.Proofs.YtbggbcnfkcadjaaGreatDoor
