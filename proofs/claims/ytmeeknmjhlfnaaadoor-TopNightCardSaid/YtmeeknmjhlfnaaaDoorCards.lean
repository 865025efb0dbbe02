/-
  DERIVED. GIVEN WITH THE SEED: THE CARDS: each row of YtmeeknmjhlfnaaaDoorRows.lean that lists a variable, with what it lists TIED to the program's text (the seventh form; the later family's looks); each row that meets fmt, with fmt's text TOLD by the authors' own Lean function (tested against real Go, not proved from fmt's source: count such statements apart). THE CARD IS WHAT COUNTS. Prove the row's statement (the work); the ties are given (YtmeeknmjhlfnaaaDoorTie.lean); close each card by the builder's one call (the guide's Derived/Test/ToyasCard.lean, 'card_holds'). Laid BY PROGRAM, IN A SANDBOX (cutbox-door.mjs). By AI agents, Wed Nov 11 2026. No macro, syntax, notation, axiom, sorry.
-/
import Derived.Test.YtmeeknmjhlfnaaaDoorRows
import GoSem.ClaimSeven
namespace Go.Proofs.YtmeeknmjhlfnaaaDoor
namespace Rows

/-- THE TIED CARD OF 'meterworkstop.TopNight'. -/
def topNightCard : Claim7 := { stood := { row := topNightRow, standIns := [], harness := (true, "8dee721265a6fba359dadd6dd872a302a940bae711d2940dae29222ff72eea33"), looks := false }, kinds := [], alts := [], laidByText := true, laidKinds := [.data, .data], laidTests := true, laidLooks := .later }
def TopNightCardSaid : Prop := Claim7.holds Tryd.pinned (.plain (OpenSpec.ofChange topNightSpec)) topNightCard

/-- THE SECOND FORM's CARD OF 'meterworkstop.TopNight'. -/
def topNightUptoCard : Claim7 := { stood := { row := topNightUptoRow, standIns := [], harness := (true, "8dee721265a6fba359dadd6dd872a302a940bae711d2940dae29222ff72eea33"), looks := false }, kinds := [], alts := [], laidByText := true, laidKinds := [.data, .data], laidTests := true, laidLooks := .later }
def TopNightUptoCardSaid : Prop := Claim7.holds Tryd.pinned (.plain (OpenSpec.upto topNightSpec)) topNightUptoCard
end Rows
end Go.Proofs.YtmeeknmjhlfnaaaDoor
