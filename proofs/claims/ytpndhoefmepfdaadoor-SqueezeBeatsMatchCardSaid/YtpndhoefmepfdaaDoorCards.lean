/-
  DERIVED. GIVEN WITH THE SEED: THE CARDS: each row of YtpndhoefmepfdaaDoorRows.lean that lists a variable, with what it lists TIED to the program's text (the seventh form; the later family's looks); each row that meets fmt, with fmt's text TOLD by the authors' own Lean function (tested against real Go, not proved from fmt's source: count such statements apart). THE CARD IS WHAT COUNTS. Prove the row's statement (the work); the ties are given (YtpndhoefmepfdaaDoorTie.lean); close each card by the builder's one call (the guide's Derived/Test/ToyasCard.lean, 'card_holds'). Laid BY PROGRAM, IN A SANDBOX (cutbox-door.mjs). By AI agents, Wed Nov 11 2026. No macro, syntax, notation, axiom, sorry.
-/
import Derived.Test.YtpndhoefmepfdaaDoorRows
import GoSem.ClaimSeven
namespace Go.Proofs.YtpndhoefmepfdaaDoor
namespace Rows

/-- THE TIED CARD OF 'valiselaw11.DeflateEfforts'. -/
def deflateEffortsCard : Claim7 := { stood := { row := deflateEffortsRow, standIns := [], harness := (true, "84da207667b14274e45a5fc0b25b3b07feab1b5f63cdc93594111326394918b9"), looks := false }, kinds := [], alts := [], laidByText := true, laidKinds := [.data, .data], laidTests := true, laidLooks := .later }
def DeflateEffortsCardSaid : Prop := Claim7.holds Tryd.pinned (.plain (OpenSpec.ofChange deflateEffortsSpec)) deflateEffortsCard

/-- THE TIED CARD OF 'valiselaw21.SqueezePriced'. -/
def squeezePricedCard : Claim7 := { stood := { row := squeezePricedRow, standIns := [], harness := (true, "84da207667b14274e45a5fc0b25b3b07feab1b5f63cdc93594111326394918b9"), looks := false }, kinds := [], alts := [], laidByText := true, laidKinds := [.data, .data, .data, .data], laidTests := true, laidLooks := .later }
def SqueezePricedCardSaid : Prop := Claim7.holds Tryd.pinned (.plain (OpenSpec.ofChange squeezePricedSpec)) squeezePricedCard

/-- THE TIED CARD OF 'valiselaw21.SqueezeCheapest'. -/
def squeezeCheapestCard : Claim7 := { stood := { row := squeezeCheapestRow, standIns := [], harness := (true, "84da207667b14274e45a5fc0b25b3b07feab1b5f63cdc93594111326394918b9"), looks := false }, kinds := [], alts := [], laidByText := true, laidKinds := [.data, .data, .data, .data], laidTests := true, laidLooks := .later }
def SqueezeCheapestCardSaid : Prop := Claim7.holds Tryd.pinned (.plain (OpenSpec.ofChange squeezeCheapestSpec)) squeezeCheapestCard

/-- THE TIED CARD OF 'valiselaw21.SqueezeLast'. -/
def squeezeLastCard : Claim7 := { stood := { row := squeezeLastRow, standIns := [], harness := (true, "84da207667b14274e45a5fc0b25b3b07feab1b5f63cdc93594111326394918b9"), looks := false }, kinds := [], alts := [], laidByText := true, laidKinds := [.data, .data, .data, .data], laidTests := true, laidLooks := .later }
def SqueezeLastCardSaid : Prop := Claim7.holds Tryd.pinned (.plain (OpenSpec.ofChange squeezeLastSpec)) squeezeLastCard

/-- THE TIED CARD OF 'valiselaw21.SqueezeWindows'. -/
def squeezeWindowsCard : Claim7 := { stood := { row := squeezeWindowsRow, standIns := [], harness := (true, "84da207667b14274e45a5fc0b25b3b07feab1b5f63cdc93594111326394918b9"), looks := false }, kinds := [], alts := [], laidByText := true, laidKinds := [.data, .data, .data, .data], laidTests := true, laidLooks := .later }
def SqueezeWindowsCardSaid : Prop := Claim7.holds Tryd.pinned (.plain (OpenSpec.ofChange squeezeWindowsSpec)) squeezeWindowsCard

/-- THE TIED CARD OF 'valiselaw21.SqueezeIsCheapest'. -/
def squeezeIsCheapestCard : Claim7 := { stood := { row := squeezeIsCheapestRow, standIns := [], harness := (true, "84da207667b14274e45a5fc0b25b3b07feab1b5f63cdc93594111326394918b9"), looks := false }, kinds := [], alts := [], laidByText := true, laidKinds := [.data, .data, .data, .data], laidTests := true, laidLooks := .later }
def SqueezeIsCheapestCardSaid : Prop := Claim7.holds Tryd.pinned (.plain (OpenSpec.ofChange squeezeIsCheapestSpec)) squeezeIsCheapestCard

/-- THE TIED CARD OF 'valiselaw21.SqueezeBeatsMatch'. -/
def squeezeBeatsMatchCard : Claim7 := { stood := { row := squeezeBeatsMatchRow, standIns := [], harness := (true, "84da207667b14274e45a5fc0b25b3b07feab1b5f63cdc93594111326394918b9"), looks := false }, kinds := [], alts := [], laidByText := true, laidKinds := [.data, .data, .data, .data], laidTests := true, laidLooks := .later }
def SqueezeBeatsMatchCardSaid : Prop := Claim7.holds Tryd.pinned (.plain (OpenSpec.ofChange squeezeBeatsMatchSpec)) squeezeBeatsMatchCard

/-- THE SECOND FORM's CARD OF 'valiselaw11.DeflateEfforts'. -/
def deflateEffortsUptoCard : Claim7 := { stood := { row := deflateEffortsUptoRow, standIns := [], harness := (true, "84da207667b14274e45a5fc0b25b3b07feab1b5f63cdc93594111326394918b9"), looks := false }, kinds := [], alts := [], laidByText := true, laidKinds := [.data, .data], laidTests := true, laidLooks := .later }
def DeflateEffortsUptoCardSaid : Prop := Claim7.holds Tryd.pinned (.plain (OpenSpec.upto deflateEffortsSpec)) deflateEffortsUptoCard

/-- THE SECOND FORM's CARD OF 'valiselaw21.SqueezePriced'. -/
def squeezePricedUptoCard : Claim7 := { stood := { row := squeezePricedUptoRow, standIns := [], harness := (true, "84da207667b14274e45a5fc0b25b3b07feab1b5f63cdc93594111326394918b9"), looks := false }, kinds := [], alts := [], laidByText := true, laidKinds := [.data, .data, .data, .data], laidTests := true, laidLooks := .later }
def SqueezePricedUptoCardSaid : Prop := Claim7.holds Tryd.pinned (.plain (OpenSpec.upto squeezePricedSpec)) squeezePricedUptoCard

/-- THE SECOND FORM's CARD OF 'valiselaw21.SqueezeCheapest'. -/
def squeezeCheapestUptoCard : Claim7 := { stood := { row := squeezeCheapestUptoRow, standIns := [], harness := (true, "84da207667b14274e45a5fc0b25b3b07feab1b5f63cdc93594111326394918b9"), looks := false }, kinds := [], alts := [], laidByText := true, laidKinds := [.data, .data, .data, .data], laidTests := true, laidLooks := .later }
def SqueezeCheapestUptoCardSaid : Prop := Claim7.holds Tryd.pinned (.plain (OpenSpec.upto squeezeCheapestSpec)) squeezeCheapestUptoCard

/-- THE SECOND FORM's CARD OF 'valiselaw21.SqueezeLast'. -/
def squeezeLastUptoCard : Claim7 := { stood := { row := squeezeLastUptoRow, standIns := [], harness := (true, "84da207667b14274e45a5fc0b25b3b07feab1b5f63cdc93594111326394918b9"), looks := false }, kinds := [], alts := [], laidByText := true, laidKinds := [.data, .data, .data, .data], laidTests := true, laidLooks := .later }
def SqueezeLastUptoCardSaid : Prop := Claim7.holds Tryd.pinned (.plain (OpenSpec.upto squeezeLastSpec)) squeezeLastUptoCard

/-- THE SECOND FORM's CARD OF 'valiselaw21.SqueezeWindows'. -/
def squeezeWindowsUptoCard : Claim7 := { stood := { row := squeezeWindowsUptoRow, standIns := [], harness := (true, "84da207667b14274e45a5fc0b25b3b07feab1b5f63cdc93594111326394918b9"), looks := false }, kinds := [], alts := [], laidByText := true, laidKinds := [.data, .data, .data, .data], laidTests := true, laidLooks := .later }
def SqueezeWindowsUptoCardSaid : Prop := Claim7.holds Tryd.pinned (.plain (OpenSpec.upto squeezeWindowsSpec)) squeezeWindowsUptoCard

/-- THE SECOND FORM's CARD OF 'valiselaw21.SqueezeIsCheapest'. -/
def squeezeIsCheapestUptoCard : Claim7 := { stood := { row := squeezeIsCheapestUptoRow, standIns := [], harness := (true, "84da207667b14274e45a5fc0b25b3b07feab1b5f63cdc93594111326394918b9"), looks := false }, kinds := [], alts := [], laidByText := true, laidKinds := [.data, .data, .data, .data], laidTests := true, laidLooks := .later }
def SqueezeIsCheapestUptoCardSaid : Prop := Claim7.holds Tryd.pinned (.plain (OpenSpec.upto squeezeIsCheapestSpec)) squeezeIsCheapestUptoCard

/-- THE SECOND FORM's CARD OF 'valiselaw21.SqueezeBeatsMatch'. -/
def squeezeBeatsMatchUptoCard : Claim7 := { stood := { row := squeezeBeatsMatchUptoRow, standIns := [], harness := (true, "84da207667b14274e45a5fc0b25b3b07feab1b5f63cdc93594111326394918b9"), looks := false }, kinds := [], alts := [], laidByText := true, laidKinds := [.data, .data, .data, .data], laidTests := true, laidLooks := .later }
def SqueezeBeatsMatchUptoCardSaid : Prop := Claim7.holds Tryd.pinned (.plain (OpenSpec.upto squeezeBeatsMatchSpec)) squeezeBeatsMatchUptoCard
end Rows
end Go.Proofs.YtpndhoefmepfdaaDoor
