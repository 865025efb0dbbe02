/-
  DERIVED. GIVEN WITH THE SEED: THE CARDS: each row of YtlofopnjjeeehaaDoorRows.lean that lists a variable, with what it lists TIED to the program's text (the seventh form; the later family's looks); each row that meets fmt, with fmt's text TOLD by the authors' own Lean function (tested against real Go, not proved from fmt's source: count such statements apart). THE CARD IS WHAT COUNTS. Prove the row's statement (the work); the ties are given (YtlofopnjjeeehaaDoorTie.lean); close each card by the builder's one call (the guide's Derived/Test/ToyasCard.lean, 'card_holds'). Laid BY PROGRAM, IN A SANDBOX (cutbox-door.mjs). By AI agents, Wed Nov 11 2026. No macro, syntax, notation, axiom, sorry.
-/
import Derived.Test.YtlofopnjjeeehaaDoorRows
import GoSem.ClaimSeven
namespace Go.Proofs.YtlofopnjjeeehaaDoor
namespace Rows

/-- THE TIED CARD OF 'meterworkstop.TopRing'. -/
def topRingCard : Claim7 := { stood := { row := topRingRow, standIns := [], harness := (true, "509002de01827f5bb0163595df481d69453c6406bb540f0969ae04f859c64b74"), looks := false }, kinds := [], alts := [], laidByText := true, laidKinds := [.data, .data], laidTests := true, laidLooks := .later }
def TopRingCardSaid : Prop := Claim7.holds Tryd.pinned (.plain (OpenSpec.ofChange topRingSpec)) topRingCard

/-- THE SECOND FORM's CARD OF 'meterworkstop.TopRing'. -/
def topRingUptoCard : Claim7 := { stood := { row := topRingUptoRow, standIns := [], harness := (true, "509002de01827f5bb0163595df481d69453c6406bb540f0969ae04f859c64b74"), looks := false }, kinds := [], alts := [], laidByText := true, laidKinds := [.data, .data], laidTests := true, laidLooks := .later }
def TopRingUptoCardSaid : Prop := Claim7.holds Tryd.pinned (.plain (OpenSpec.upto topRingSpec)) topRingUptoCard
end Rows
end Go.Proofs.YtlofopnjjeeehaaDoor
