/-
  DERIVED. GIVEN WITH THE SEED: THE CARDS: each row of YtpognhnmkjpipaaDoorRows.lean that lists a variable, with what it lists TIED to the program's text (the seventh form; the later family's looks); each row that meets fmt, with fmt's text TOLD by the authors' own Lean function (tested against real Go, not proved from fmt's source: count such statements apart). THE CARD IS WHAT COUNTS. Prove the row's statement (the work); the ties are given (YtpognhnmkjpipaaDoorTie.lean); close each card by the builder's one call (the guide's Derived/Test/ToyasCard.lean, 'card_holds'). Laid BY PROGRAM, IN A SANDBOX (cutbox-door.mjs). By AI agents, Wed Nov 11 2026. No macro, syntax, notation, axiom, sorry.
-/
import Derived.Test.YtpognhnmkjpipaaDoorRows
import GoSem.ClaimSeven
namespace Go.Proofs.YtpognhnmkjpipaaDoor
namespace Rows

/-- THE TIED CARD OF 'meterworkslaw10.StepSuspects'. -/
def stepSuspectsCard : Claim7 := { stood := { row := stepSuspectsRow, standIns := [], harness := (true, "4c260dce8d1851ea9928c8e6bae6c55f4b1414d2b96d810841344408b7e5510c"), looks := false }, kinds := [], alts := [], laidByText := true, laidKinds := [.data, .data], laidTests := true, laidLooks := .later }
def StepSuspectsCardSaid : Prop := Claim7.holds Tryd.pinned (.plain (OpenSpec.ofChange stepSuspectsSpec)) stepSuspectsCard

/-- THE TIED CARD OF 'meterworkslaw10.StepLeaks'. -/
def stepLeaksCard : Claim7 := { stood := { row := stepLeaksRow, standIns := [], harness := (true, "4c260dce8d1851ea9928c8e6bae6c55f4b1414d2b96d810841344408b7e5510c"), looks := false }, kinds := [], alts := [], laidByText := true, laidKinds := [.data, .data], laidTests := true, laidLooks := .later }
def StepLeaksCardSaid : Prop := Claim7.holds Tryd.pinned (.plain (OpenSpec.ofChange stepLeaksSpec)) stepLeaksCard

/-- THE TIED CARD OF 'meterworkslaw10.StepTrue'. -/
def stepTrueCard : Claim7 := { stood := { row := stepTrueRow, standIns := [], harness := (true, "4c260dce8d1851ea9928c8e6bae6c55f4b1414d2b96d810841344408b7e5510c"), looks := false }, kinds := [], alts := [], laidByText := true, laidKinds := [.data, .data], laidTests := true, laidLooks := .later }
def StepTrueCardSaid : Prop := Claim7.holds Tryd.pinned (.plain (OpenSpec.ofChange stepTrueSpec)) stepTrueCard

/-- THE TIED CARD OF 'meterworkslaw10.StepEnds'. -/
def stepEndsCard : Claim7 := { stood := { row := stepEndsRow, standIns := [], harness := (true, "4c260dce8d1851ea9928c8e6bae6c55f4b1414d2b96d810841344408b7e5510c"), looks := false }, kinds := [], alts := [], laidByText := true, laidKinds := [.data, .data], laidTests := true, laidLooks := .later }
def StepEndsCardSaid : Prop := Claim7.holds Tryd.pinned (.plain (OpenSpec.ofChange stepEndsSpec)) stepEndsCard

/-- THE TIED CARD OF 'meterworkslaw10.StepMore'. -/
def stepMoreCard : Claim7 := { stood := { row := stepMoreRow, standIns := [], harness := (true, "4c260dce8d1851ea9928c8e6bae6c55f4b1414d2b96d810841344408b7e5510c"), looks := false }, kinds := [], alts := [], laidByText := true, laidKinds := [.data, .data], laidTests := true, laidLooks := .later }
def StepMoreCardSaid : Prop := Claim7.holds Tryd.pinned (.plain (OpenSpec.ofChange stepMoreSpec)) stepMoreCard

/-- THE TIED CARD OF 'meterworkslaw10.StepOrder'. -/
def stepOrderCard : Claim7 := { stood := { row := stepOrderRow, standIns := [], harness := (true, "4c260dce8d1851ea9928c8e6bae6c55f4b1414d2b96d810841344408b7e5510c"), looks := false }, kinds := [], alts := [], laidByText := true, laidKinds := [.data, .data], laidTests := true, laidLooks := .later }
def StepOrderCardSaid : Prop := Claim7.holds Tryd.pinned (.plain (OpenSpec.ofChange stepOrderSpec)) stepOrderCard

/-- THE TIED CARD OF 'meterworkslaw10.StepNext'. -/
def stepNextCard : Claim7 := { stood := { row := stepNextRow, standIns := [], harness := (true, "4c260dce8d1851ea9928c8e6bae6c55f4b1414d2b96d810841344408b7e5510c"), looks := false }, kinds := [], alts := [], laidByText := true, laidKinds := [.data, .data], laidTests := true, laidLooks := .later }
def StepNextCardSaid : Prop := Claim7.holds Tryd.pinned (.plain (OpenSpec.ofChange stepNextSpec)) stepNextCard

/-- THE SECOND FORM's CARD OF 'meterworkslaw10.StepSuspects'. -/
def stepSuspectsUptoCard : Claim7 := { stood := { row := stepSuspectsUptoRow, standIns := [], harness := (true, "4c260dce8d1851ea9928c8e6bae6c55f4b1414d2b96d810841344408b7e5510c"), looks := false }, kinds := [], alts := [], laidByText := true, laidKinds := [.data, .data], laidTests := true, laidLooks := .later }
def StepSuspectsUptoCardSaid : Prop := Claim7.holds Tryd.pinned (.plain (OpenSpec.upto stepSuspectsSpec)) stepSuspectsUptoCard

/-- THE SECOND FORM's CARD OF 'meterworkslaw10.StepLeaks'. -/
def stepLeaksUptoCard : Claim7 := { stood := { row := stepLeaksUptoRow, standIns := [], harness := (true, "4c260dce8d1851ea9928c8e6bae6c55f4b1414d2b96d810841344408b7e5510c"), looks := false }, kinds := [], alts := [], laidByText := true, laidKinds := [.data, .data], laidTests := true, laidLooks := .later }
def StepLeaksUptoCardSaid : Prop := Claim7.holds Tryd.pinned (.plain (OpenSpec.upto stepLeaksSpec)) stepLeaksUptoCard

/-- THE SECOND FORM's CARD OF 'meterworkslaw10.StepTrue'. -/
def stepTrueUptoCard : Claim7 := { stood := { row := stepTrueUptoRow, standIns := [], harness := (true, "4c260dce8d1851ea9928c8e6bae6c55f4b1414d2b96d810841344408b7e5510c"), looks := false }, kinds := [], alts := [], laidByText := true, laidKinds := [.data, .data], laidTests := true, laidLooks := .later }
def StepTrueUptoCardSaid : Prop := Claim7.holds Tryd.pinned (.plain (OpenSpec.upto stepTrueSpec)) stepTrueUptoCard

/-- THE SECOND FORM's CARD OF 'meterworkslaw10.StepEnds'. -/
def stepEndsUptoCard : Claim7 := { stood := { row := stepEndsUptoRow, standIns := [], harness := (true, "4c260dce8d1851ea9928c8e6bae6c55f4b1414d2b96d810841344408b7e5510c"), looks := false }, kinds := [], alts := [], laidByText := true, laidKinds := [.data, .data], laidTests := true, laidLooks := .later }
def StepEndsUptoCardSaid : Prop := Claim7.holds Tryd.pinned (.plain (OpenSpec.upto stepEndsSpec)) stepEndsUptoCard

/-- THE SECOND FORM's CARD OF 'meterworkslaw10.StepMore'. -/
def stepMoreUptoCard : Claim7 := { stood := { row := stepMoreUptoRow, standIns := [], harness := (true, "4c260dce8d1851ea9928c8e6bae6c55f4b1414d2b96d810841344408b7e5510c"), looks := false }, kinds := [], alts := [], laidByText := true, laidKinds := [.data, .data], laidTests := true, laidLooks := .later }
def StepMoreUptoCardSaid : Prop := Claim7.holds Tryd.pinned (.plain (OpenSpec.upto stepMoreSpec)) stepMoreUptoCard

/-- THE SECOND FORM's CARD OF 'meterworkslaw10.StepOrder'. -/
def stepOrderUptoCard : Claim7 := { stood := { row := stepOrderUptoRow, standIns := [], harness := (true, "4c260dce8d1851ea9928c8e6bae6c55f4b1414d2b96d810841344408b7e5510c"), looks := false }, kinds := [], alts := [], laidByText := true, laidKinds := [.data, .data], laidTests := true, laidLooks := .later }
def StepOrderUptoCardSaid : Prop := Claim7.holds Tryd.pinned (.plain (OpenSpec.upto stepOrderSpec)) stepOrderUptoCard

/-- THE SECOND FORM's CARD OF 'meterworkslaw10.StepNext'. -/
def stepNextUptoCard : Claim7 := { stood := { row := stepNextUptoRow, standIns := [], harness := (true, "4c260dce8d1851ea9928c8e6bae6c55f4b1414d2b96d810841344408b7e5510c"), looks := false }, kinds := [], alts := [], laidByText := true, laidKinds := [.data, .data], laidTests := true, laidLooks := .later }
def StepNextUptoCardSaid : Prop := Claim7.holds Tryd.pinned (.plain (OpenSpec.upto stepNextSpec)) stepNextUptoCard
end Rows
end Go.Proofs.YtpognhnmkjpipaaDoor
