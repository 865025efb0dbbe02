/-
  DERIVED. GIVEN WITH THE SEED: THE CARDS: each row of YtldodmfmibeoiaaDoorRows.lean that lists a variable, with what it lists TIED to the program's text (the seventh form; the later family's looks); each row that meets fmt, with fmt's text TOLD by the authors' own Lean function (tested against real Go, not proved from fmt's source: count such statements apart). THE CARD IS WHAT COUNTS. Prove the row's statement (the work); the ties are given (YtldodmfmibeoiaaDoorTie.lean); close each card by the builder's one call (the guide's Derived/Test/ToyasCard.lean, 'card_holds'). Laid BY PROGRAM, IN A SANDBOX (cutbox-door.mjs). By AI agents, Wed Nov 11 2026. No macro, syntax, notation, axiom, sorry.
-/
import Derived.Test.YtldodmfmibeoiaaDoorRows
import GoSem.ClaimSeven
namespace Go.Proofs.YtldodmfmibeoiaaDoor
namespace Rows

/-- THE TIED CARD OF 'meterworkslaw05.TravelFits'. -/
def travelFitsCard : Claim7 := { stood := { row := travelFitsRow, standIns := [], harness := (true, "f388cbf75485bbda68a13c13777d0bbf9e7bd320521d2a2b3c1ceb202c0fcb3b"), looks := false }, kinds := [], alts := [], laidByText := true, laidKinds := [.data, .data], laidTests := true, laidLooks := .later }
def TravelFitsCardSaid : Prop := Claim7.holds Tryd.pinned (.plain (OpenSpec.ofChange travelFitsSpec)) travelFitsCard

/-- THE TIED CARD OF 'meterworkslaw05.TravelSpans'. -/
def travelSpansCard : Claim7 := { stood := { row := travelSpansRow, standIns := [], harness := (true, "f388cbf75485bbda68a13c13777d0bbf9e7bd320521d2a2b3c1ceb202c0fcb3b"), looks := false }, kinds := [], alts := [], laidByText := true, laidKinds := [.data, .data], laidTests := true, laidLooks := .later }
def TravelSpansCardSaid : Prop := Claim7.holds Tryd.pinned (.plain (OpenSpec.ofChange travelSpansSpec)) travelSpansCard

/-- THE TIED CARD OF 'meterworkslaw05.TravelClashes'. -/
def travelClashesCard : Claim7 := { stood := { row := travelClashesRow, standIns := [], harness := (true, "f388cbf75485bbda68a13c13777d0bbf9e7bd320521d2a2b3c1ceb202c0fcb3b"), looks := false }, kinds := [], alts := [], laidByText := true, laidKinds := [.data, .data], laidTests := true, laidLooks := .later }
def TravelClashesCardSaid : Prop := Claim7.holds Tryd.pinned (.plain (OpenSpec.ofChange travelClashesSpec)) travelClashesCard

/-- THE TIED CARD OF 'meterworkslaw05.TravelTrue'. -/
def travelTrueCard : Claim7 := { stood := { row := travelTrueRow, standIns := [], harness := (true, "f388cbf75485bbda68a13c13777d0bbf9e7bd320521d2a2b3c1ceb202c0fcb3b"), looks := false }, kinds := [], alts := [], laidByText := true, laidKinds := [.data, .data], laidTests := true, laidLooks := .later }
def TravelTrueCardSaid : Prop := Claim7.holds Tryd.pinned (.plain (OpenSpec.ofChange travelTrueSpec)) travelTrueCard

/-- THE TIED CARD OF 'meterworkslaw05.TravelEnds'. -/
def travelEndsCard : Claim7 := { stood := { row := travelEndsRow, standIns := [], harness := (true, "f388cbf75485bbda68a13c13777d0bbf9e7bd320521d2a2b3c1ceb202c0fcb3b"), looks := false }, kinds := [], alts := [], laidByText := true, laidKinds := [.data, .data], laidTests := true, laidLooks := .later }
def TravelEndsCardSaid : Prop := Claim7.holds Tryd.pinned (.plain (OpenSpec.ofChange travelEndsSpec)) travelEndsCard

/-- THE TIED CARD OF 'meterworkslaw05.TravelProof'. -/
def travelProofCard : Claim7 := { stood := { row := travelProofRow, standIns := [], harness := (true, "f388cbf75485bbda68a13c13777d0bbf9e7bd320521d2a2b3c1ceb202c0fcb3b"), looks := false }, kinds := [], alts := [], laidByText := true, laidKinds := [.data, .data], laidTests := true, laidLooks := .later }
def TravelProofCardSaid : Prop := Claim7.holds Tryd.pinned (.plain (OpenSpec.ofChange travelProofSpec)) travelProofCard

/-- THE TIED CARD OF 'meterworkslaw05.TravelMore'. -/
def travelMoreCard : Claim7 := { stood := { row := travelMoreRow, standIns := [], harness := (true, "f388cbf75485bbda68a13c13777d0bbf9e7bd320521d2a2b3c1ceb202c0fcb3b"), looks := false }, kinds := [], alts := [], laidByText := true, laidKinds := [.data, .data], laidTests := true, laidLooks := .later }
def TravelMoreCardSaid : Prop := Claim7.holds Tryd.pinned (.plain (OpenSpec.ofChange travelMoreSpec)) travelMoreCard

/-- THE TIED CARD OF 'meterworkslaw05.TravelOrder'. -/
def travelOrderCard : Claim7 := { stood := { row := travelOrderRow, standIns := [], harness := (true, "f388cbf75485bbda68a13c13777d0bbf9e7bd320521d2a2b3c1ceb202c0fcb3b"), looks := false }, kinds := [], alts := [], laidByText := true, laidKinds := [.data, .data], laidTests := true, laidLooks := .later }
def TravelOrderCardSaid : Prop := Claim7.holds Tryd.pinned (.plain (OpenSpec.ofChange travelOrderSpec)) travelOrderCard

/-- THE SECOND FORM's CARD OF 'meterworkslaw05.TravelFits'. -/
def travelFitsUptoCard : Claim7 := { stood := { row := travelFitsUptoRow, standIns := [], harness := (true, "f388cbf75485bbda68a13c13777d0bbf9e7bd320521d2a2b3c1ceb202c0fcb3b"), looks := false }, kinds := [], alts := [], laidByText := true, laidKinds := [.data, .data], laidTests := true, laidLooks := .later }
def TravelFitsUptoCardSaid : Prop := Claim7.holds Tryd.pinned (.plain (OpenSpec.upto travelFitsSpec)) travelFitsUptoCard

/-- THE SECOND FORM's CARD OF 'meterworkslaw05.TravelSpans'. -/
def travelSpansUptoCard : Claim7 := { stood := { row := travelSpansUptoRow, standIns := [], harness := (true, "f388cbf75485bbda68a13c13777d0bbf9e7bd320521d2a2b3c1ceb202c0fcb3b"), looks := false }, kinds := [], alts := [], laidByText := true, laidKinds := [.data, .data], laidTests := true, laidLooks := .later }
def TravelSpansUptoCardSaid : Prop := Claim7.holds Tryd.pinned (.plain (OpenSpec.upto travelSpansSpec)) travelSpansUptoCard

/-- THE SECOND FORM's CARD OF 'meterworkslaw05.TravelClashes'. -/
def travelClashesUptoCard : Claim7 := { stood := { row := travelClashesUptoRow, standIns := [], harness := (true, "f388cbf75485bbda68a13c13777d0bbf9e7bd320521d2a2b3c1ceb202c0fcb3b"), looks := false }, kinds := [], alts := [], laidByText := true, laidKinds := [.data, .data], laidTests := true, laidLooks := .later }
def TravelClashesUptoCardSaid : Prop := Claim7.holds Tryd.pinned (.plain (OpenSpec.upto travelClashesSpec)) travelClashesUptoCard

/-- THE SECOND FORM's CARD OF 'meterworkslaw05.TravelTrue'. -/
def travelTrueUptoCard : Claim7 := { stood := { row := travelTrueUptoRow, standIns := [], harness := (true, "f388cbf75485bbda68a13c13777d0bbf9e7bd320521d2a2b3c1ceb202c0fcb3b"), looks := false }, kinds := [], alts := [], laidByText := true, laidKinds := [.data, .data], laidTests := true, laidLooks := .later }
def TravelTrueUptoCardSaid : Prop := Claim7.holds Tryd.pinned (.plain (OpenSpec.upto travelTrueSpec)) travelTrueUptoCard

/-- THE SECOND FORM's CARD OF 'meterworkslaw05.TravelEnds'. -/
def travelEndsUptoCard : Claim7 := { stood := { row := travelEndsUptoRow, standIns := [], harness := (true, "f388cbf75485bbda68a13c13777d0bbf9e7bd320521d2a2b3c1ceb202c0fcb3b"), looks := false }, kinds := [], alts := [], laidByText := true, laidKinds := [.data, .data], laidTests := true, laidLooks := .later }
def TravelEndsUptoCardSaid : Prop := Claim7.holds Tryd.pinned (.plain (OpenSpec.upto travelEndsSpec)) travelEndsUptoCard

/-- THE SECOND FORM's CARD OF 'meterworkslaw05.TravelProof'. -/
def travelProofUptoCard : Claim7 := { stood := { row := travelProofUptoRow, standIns := [], harness := (true, "f388cbf75485bbda68a13c13777d0bbf9e7bd320521d2a2b3c1ceb202c0fcb3b"), looks := false }, kinds := [], alts := [], laidByText := true, laidKinds := [.data, .data], laidTests := true, laidLooks := .later }
def TravelProofUptoCardSaid : Prop := Claim7.holds Tryd.pinned (.plain (OpenSpec.upto travelProofSpec)) travelProofUptoCard

/-- THE SECOND FORM's CARD OF 'meterworkslaw05.TravelMore'. -/
def travelMoreUptoCard : Claim7 := { stood := { row := travelMoreUptoRow, standIns := [], harness := (true, "f388cbf75485bbda68a13c13777d0bbf9e7bd320521d2a2b3c1ceb202c0fcb3b"), looks := false }, kinds := [], alts := [], laidByText := true, laidKinds := [.data, .data], laidTests := true, laidLooks := .later }
def TravelMoreUptoCardSaid : Prop := Claim7.holds Tryd.pinned (.plain (OpenSpec.upto travelMoreSpec)) travelMoreUptoCard

/-- THE SECOND FORM's CARD OF 'meterworkslaw05.TravelOrder'. -/
def travelOrderUptoCard : Claim7 := { stood := { row := travelOrderUptoRow, standIns := [], harness := (true, "f388cbf75485bbda68a13c13777d0bbf9e7bd320521d2a2b3c1ceb202c0fcb3b"), looks := false }, kinds := [], alts := [], laidByText := true, laidKinds := [.data, .data], laidTests := true, laidLooks := .later }
def TravelOrderUptoCardSaid : Prop := Claim7.holds Tryd.pinned (.plain (OpenSpec.upto travelOrderSpec)) travelOrderUptoCard
end Rows
end Go.Proofs.YtldodmfmibeoiaaDoor
