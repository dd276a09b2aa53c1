/-
  DERIVED. GIVEN WITH THE SEED: THE CARDS: each row of YtpheiojmcafolaaGreatDoorRows.lean that lists a variable, with what it lists TIED to the program's text (the seventh form; the later family's looks); each row that meets fmt, with fmt's text TOLD by the authors' own Lean function (tested against real Go, not proved from fmt's source: count such statements apart). THE CARD IS WHAT COUNTS. Prove the row's statement (the work); the ties are given (YtpheiojmcafolaaGreatDoorTie.lean); close each card by the builder's one call (the guide's Derived/Test/ToyasCard.lean, 'card_holds'). Laid BY PROGRAM, IN A SANDBOX (cutbox-door.mjs). By AI agents, Wed Nov 11 2026. No macro, syntax, notation, axiom, sorry.
-/
import Derived.Test.YtpheiojmcafolaaGreatDoorRows
import GoSem.ClaimSeven
namespace Go.Proofs.YtpheiojmcafolaaGreatDoor
namespace Rows

/-- THE TIED CARD OF 'wicketgatelaw4.TruthMeans'. -/
def truthMeansCard : Claim7 := { stood := { row := truthMeansRow, standIns := [], harness := (true, "aa0a7b20dda724aeffaf6ef6a93ebaab11c43a1a7eba557b31a0b2f3bbac26b0"), looks := true }, kinds := [], alts := [], laidByText := true, laidKinds := [.handle], laidTests := true, laidLooks := .later }
def TruthMeansCardSaid : Prop := Claim7.holds Tryz.pinned (.plain (OpenSpec.ofChange truthMeansSpec)) truthMeansCard

/-- THE TIED CARD OF 'wicketgatelaw4.PolMeans'. -/
def polMeansCard : Claim7 := { stood := { row := polMeansRow, standIns := [], harness := (true, "aa0a7b20dda724aeffaf6ef6a93ebaab11c43a1a7eba557b31a0b2f3bbac26b0"), looks := true }, kinds := [], alts := [], laidByText := true, laidKinds := [.handle], laidTests := true, laidLooks := .later }
def PolMeansCardSaid : Prop := Claim7.holds Tryz.pinned (.plain (OpenSpec.ofChange polMeansSpec)) polMeansCard

/-- THE TIED CARD OF 'wicketgatelaw4.MoveMeans'. -/
def moveMeansCard : Claim7 := { stood := { row := moveMeansRow, standIns := [], harness := (true, "aa0a7b20dda724aeffaf6ef6a93ebaab11c43a1a7eba557b31a0b2f3bbac26b0"), looks := true }, kinds := [], alts := [], laidByText := true, laidKinds := [.handle], laidTests := true, laidLooks := .later }
def MoveMeansCardSaid : Prop := Claim7.holds Tryz.pinned (.plain (OpenSpec.ofChange moveMeansSpec)) moveMeansCard

/-- THE TIED CARD OF 'wicketgatelaw4.AuthOrder'. -/
def authOrderCard : Claim7 := { stood := { row := authOrderRow, standIns := [], harness := (true, "aa0a7b20dda724aeffaf6ef6a93ebaab11c43a1a7eba557b31a0b2f3bbac26b0"), looks := true }, kinds := [], alts := [], laidByText := true, laidKinds := [.handle], laidTests := true, laidLooks := .later }
def AuthOrderCardSaid : Prop := Claim7.holds Tryz.pinned (.plain (OpenSpec.ofChange authOrderSpec)) authOrderCard

/-- THE TIED CARD OF 'wicketgatelaw4.AuthTrumps'. -/
def authTrumpsCard : Claim7 := { stood := { row := authTrumpsRow, standIns := [], harness := (true, "aa0a7b20dda724aeffaf6ef6a93ebaab11c43a1a7eba557b31a0b2f3bbac26b0"), looks := true }, kinds := [], alts := [], laidByText := true, laidKinds := [.handle], laidTests := true, laidLooks := .later }
def AuthTrumpsCardSaid : Prop := Claim7.holds Tryz.pinned (.plain (OpenSpec.ofChange authTrumpsSpec)) authTrumpsCard

/-- THE TIED CARD OF 'wicketgatelaw4.AuthMore'. -/
def authMoreCard : Claim7 := { stood := { row := authMoreRow, standIns := [], harness := (true, "aa0a7b20dda724aeffaf6ef6a93ebaab11c43a1a7eba557b31a0b2f3bbac26b0"), looks := true }, kinds := [], alts := [], laidByText := true, laidKinds := [.handle], laidTests := true, laidLooks := .later }
def AuthMoreCardSaid : Prop := Claim7.holds Tryz.pinned (.plain (OpenSpec.ofChange authMoreSpec)) authMoreCard

/-- THE TIED CARD OF 'wicketgatelaw4.AuthAlone'. -/
def authAloneCard : Claim7 := { stood := { row := authAloneRow, standIns := [], harness := (true, "aa0a7b20dda724aeffaf6ef6a93ebaab11c43a1a7eba557b31a0b2f3bbac26b0"), looks := true }, kinds := [], alts := [], laidByText := true, laidKinds := [.handle], laidTests := true, laidLooks := .later }
def AuthAloneCardSaid : Prop := Claim7.holds Tryz.pinned (.plain (OpenSpec.ofChange authAloneSpec)) authAloneCard

/-- THE TIED CARD OF 'wicketgatelaw4.AuthApart'. -/
def authApartCard : Claim7 := { stood := { row := authApartRow, standIns := [], harness := (true, "aa0a7b20dda724aeffaf6ef6a93ebaab11c43a1a7eba557b31a0b2f3bbac26b0"), looks := true }, kinds := [], alts := [], laidByText := true, laidKinds := [.handle], laidTests := true, laidLooks := .later }
def AuthApartCardSaid : Prop := Claim7.holds Tryz.pinned (.plain (OpenSpec.ofChange authApartSpec)) authApartCard

/-- THE TIED CARD OF 'wicketgatelaw4.AuthCopies'. -/
def authCopiesCard : Claim7 := { stood := { row := authCopiesRow, standIns := [], harness := (true, "aa0a7b20dda724aeffaf6ef6a93ebaab11c43a1a7eba557b31a0b2f3bbac26b0"), looks := true }, kinds := [], alts := [], laidByText := true, laidKinds := [.handle], laidTests := true, laidLooks := .later }
def AuthCopiesCardSaid : Prop := Claim7.holds Tryz.pinned (.plain (OpenSpec.ofChange authCopiesSpec)) authCopiesCard

/-- THE TIED CARD OF 'wicketgatelaw4.SliceSame'. -/
def sliceSameCard : Claim7 := { stood := { row := sliceSameRow, standIns := [], harness := (true, "aa0a7b20dda724aeffaf6ef6a93ebaab11c43a1a7eba557b31a0b2f3bbac26b0"), looks := true }, kinds := [], alts := [], laidByText := true, laidKinds := [.handle], laidTests := true, laidLooks := .later }
def SliceSameCardSaid : Prop := Claim7.holds Tryz.pinned (.plain (OpenSpec.ofChange sliceSameSpec)) sliceSameCard

/-- THE TIED CARD OF 'wicketgatelaw4.SliceAgain'. -/
def sliceAgainCard : Claim7 := { stood := { row := sliceAgainRow, standIns := [], harness := (true, "aa0a7b20dda724aeffaf6ef6a93ebaab11c43a1a7eba557b31a0b2f3bbac26b0"), looks := true }, kinds := [], alts := [], laidByText := true, laidKinds := [.handle], laidTests := true, laidLooks := .later }
def SliceAgainCardSaid : Prop := Claim7.holds Tryz.pinned (.plain (OpenSpec.ofChange sliceAgainSpec)) sliceAgainCard

/-- THE TIED CARD OF 'wicketgatelaw4.MoveAsks'. -/
def moveAsksCard : Claim7 := { stood := { row := moveAsksRow, standIns := [], harness := (true, "aa0a7b20dda724aeffaf6ef6a93ebaab11c43a1a7eba557b31a0b2f3bbac26b0"), looks := true }, kinds := [], alts := [], laidByText := true, laidKinds := [.handle], laidTests := true, laidLooks := .later }
def MoveAsksCardSaid : Prop := Claim7.holds Tryz.pinned (.plain (OpenSpec.ofChange moveAsksSpec)) moveAsksCard

/-- THE SECOND FORM's CARD OF 'wicketgatelaw4.TruthMeans'. -/
def truthMeansUptoCard : Claim7 := { stood := { row := truthMeansUptoRow, standIns := [], harness := (true, "aa0a7b20dda724aeffaf6ef6a93ebaab11c43a1a7eba557b31a0b2f3bbac26b0"), looks := true }, kinds := [], alts := [], laidByText := true, laidKinds := [.handle], laidTests := true, laidLooks := .later }
def TruthMeansUptoCardSaid : Prop := Claim7.holds Tryz.pinned (.plain (OpenSpec.upto truthMeansSpec)) truthMeansUptoCard

/-- THE SECOND FORM's CARD OF 'wicketgatelaw4.PolMeans'. -/
def polMeansUptoCard : Claim7 := { stood := { row := polMeansUptoRow, standIns := [], harness := (true, "aa0a7b20dda724aeffaf6ef6a93ebaab11c43a1a7eba557b31a0b2f3bbac26b0"), looks := true }, kinds := [], alts := [], laidByText := true, laidKinds := [.handle], laidTests := true, laidLooks := .later }
def PolMeansUptoCardSaid : Prop := Claim7.holds Tryz.pinned (.plain (OpenSpec.upto polMeansSpec)) polMeansUptoCard

/-- THE SECOND FORM's CARD OF 'wicketgatelaw4.MoveMeans'. -/
def moveMeansUptoCard : Claim7 := { stood := { row := moveMeansUptoRow, standIns := [], harness := (true, "aa0a7b20dda724aeffaf6ef6a93ebaab11c43a1a7eba557b31a0b2f3bbac26b0"), looks := true }, kinds := [], alts := [], laidByText := true, laidKinds := [.handle], laidTests := true, laidLooks := .later }
def MoveMeansUptoCardSaid : Prop := Claim7.holds Tryz.pinned (.plain (OpenSpec.upto moveMeansSpec)) moveMeansUptoCard

/-- THE SECOND FORM's CARD OF 'wicketgatelaw4.AuthOrder'. -/
def authOrderUptoCard : Claim7 := { stood := { row := authOrderUptoRow, standIns := [], harness := (true, "aa0a7b20dda724aeffaf6ef6a93ebaab11c43a1a7eba557b31a0b2f3bbac26b0"), looks := true }, kinds := [], alts := [], laidByText := true, laidKinds := [.handle], laidTests := true, laidLooks := .later }
def AuthOrderUptoCardSaid : Prop := Claim7.holds Tryz.pinned (.plain (OpenSpec.upto authOrderSpec)) authOrderUptoCard

/-- THE SECOND FORM's CARD OF 'wicketgatelaw4.AuthTrumps'. -/
def authTrumpsUptoCard : Claim7 := { stood := { row := authTrumpsUptoRow, standIns := [], harness := (true, "aa0a7b20dda724aeffaf6ef6a93ebaab11c43a1a7eba557b31a0b2f3bbac26b0"), looks := true }, kinds := [], alts := [], laidByText := true, laidKinds := [.handle], laidTests := true, laidLooks := .later }
def AuthTrumpsUptoCardSaid : Prop := Claim7.holds Tryz.pinned (.plain (OpenSpec.upto authTrumpsSpec)) authTrumpsUptoCard

/-- THE SECOND FORM's CARD OF 'wicketgatelaw4.AuthMore'. -/
def authMoreUptoCard : Claim7 := { stood := { row := authMoreUptoRow, standIns := [], harness := (true, "aa0a7b20dda724aeffaf6ef6a93ebaab11c43a1a7eba557b31a0b2f3bbac26b0"), looks := true }, kinds := [], alts := [], laidByText := true, laidKinds := [.handle], laidTests := true, laidLooks := .later }
def AuthMoreUptoCardSaid : Prop := Claim7.holds Tryz.pinned (.plain (OpenSpec.upto authMoreSpec)) authMoreUptoCard

/-- THE SECOND FORM's CARD OF 'wicketgatelaw4.AuthAlone'. -/
def authAloneUptoCard : Claim7 := { stood := { row := authAloneUptoRow, standIns := [], harness := (true, "aa0a7b20dda724aeffaf6ef6a93ebaab11c43a1a7eba557b31a0b2f3bbac26b0"), looks := true }, kinds := [], alts := [], laidByText := true, laidKinds := [.handle], laidTests := true, laidLooks := .later }
def AuthAloneUptoCardSaid : Prop := Claim7.holds Tryz.pinned (.plain (OpenSpec.upto authAloneSpec)) authAloneUptoCard

/-- THE SECOND FORM's CARD OF 'wicketgatelaw4.AuthApart'. -/
def authApartUptoCard : Claim7 := { stood := { row := authApartUptoRow, standIns := [], harness := (true, "aa0a7b20dda724aeffaf6ef6a93ebaab11c43a1a7eba557b31a0b2f3bbac26b0"), looks := true }, kinds := [], alts := [], laidByText := true, laidKinds := [.handle], laidTests := true, laidLooks := .later }
def AuthApartUptoCardSaid : Prop := Claim7.holds Tryz.pinned (.plain (OpenSpec.upto authApartSpec)) authApartUptoCard

/-- THE SECOND FORM's CARD OF 'wicketgatelaw4.AuthCopies'. -/
def authCopiesUptoCard : Claim7 := { stood := { row := authCopiesUptoRow, standIns := [], harness := (true, "aa0a7b20dda724aeffaf6ef6a93ebaab11c43a1a7eba557b31a0b2f3bbac26b0"), looks := true }, kinds := [], alts := [], laidByText := true, laidKinds := [.handle], laidTests := true, laidLooks := .later }
def AuthCopiesUptoCardSaid : Prop := Claim7.holds Tryz.pinned (.plain (OpenSpec.upto authCopiesSpec)) authCopiesUptoCard

/-- THE SECOND FORM's CARD OF 'wicketgatelaw4.SliceSame'. -/
def sliceSameUptoCard : Claim7 := { stood := { row := sliceSameUptoRow, standIns := [], harness := (true, "aa0a7b20dda724aeffaf6ef6a93ebaab11c43a1a7eba557b31a0b2f3bbac26b0"), looks := true }, kinds := [], alts := [], laidByText := true, laidKinds := [.handle], laidTests := true, laidLooks := .later }
def SliceSameUptoCardSaid : Prop := Claim7.holds Tryz.pinned (.plain (OpenSpec.upto sliceSameSpec)) sliceSameUptoCard

/-- THE SECOND FORM's CARD OF 'wicketgatelaw4.SliceAgain'. -/
def sliceAgainUptoCard : Claim7 := { stood := { row := sliceAgainUptoRow, standIns := [], harness := (true, "aa0a7b20dda724aeffaf6ef6a93ebaab11c43a1a7eba557b31a0b2f3bbac26b0"), looks := true }, kinds := [], alts := [], laidByText := true, laidKinds := [.handle], laidTests := true, laidLooks := .later }
def SliceAgainUptoCardSaid : Prop := Claim7.holds Tryz.pinned (.plain (OpenSpec.upto sliceAgainSpec)) sliceAgainUptoCard

/-- THE SECOND FORM's CARD OF 'wicketgatelaw4.MoveAsks'. -/
def moveAsksUptoCard : Claim7 := { stood := { row := moveAsksUptoRow, standIns := [], harness := (true, "aa0a7b20dda724aeffaf6ef6a93ebaab11c43a1a7eba557b31a0b2f3bbac26b0"), looks := true }, kinds := [], alts := [], laidByText := true, laidKinds := [.handle], laidTests := true, laidLooks := .later }
def MoveAsksUptoCardSaid : Prop := Claim7.holds Tryz.pinned (.plain (OpenSpec.upto moveAsksSpec)) moveAsksUptoCard
end Rows
end Go.Proofs.YtpheiojmcafolaaGreatDoor
