/-
  DERIVED. GIVEN WITH THE SEED: THE CARDS: each row of YthnemjdmomljbaaDoorRows.lean that lists a variable, with what it lists TIED to the program's text (the seventh form; the later family's looks); each row that meets fmt, with fmt's text TOLD by the authors' own Lean function (tested against real Go, not proved from fmt's source: count such statements apart). THE CARD IS WHAT COUNTS. Prove the row's statement (the work); the ties are given (YthnemjdmomljbaaDoorTie.lean); close each card by the builder's one call (the guide's Derived/Test/ToyasCard.lean, 'card_holds'). Laid BY PROGRAM, IN A SANDBOX (cutbox-door.mjs). By AI agents, Wed Nov 11 2026. No macro, syntax, notation, axiom, sorry.
-/
import Derived.Test.YthnemjdmomljbaaDoorRows
import GoSem.ClaimSeven
namespace Go.Proofs.YthnemjdmomljbaaDoor
namespace Rows

/-- THE TIED CARD OF 'valiselaw22.SeekNil'. -/
def seekNilCard : Claim7 := { stood := { row := seekNilRow, standIns := [], harness := (true, "afcc1fdf542cd8664623951129988f790117bd8d9c9f53248eba584dc004e74d"), looks := false }, kinds := [], alts := [], laidByText := true, laidKinds := [.data, .data, .data], laidTests := true, laidLooks := .later }
def SeekNilCardSaid : Prop := Claim7.holds Tryd.pinned (.plain (OpenSpec.ofChange seekNilSpec)) seekNilCard

/-- THE SECOND FORM's CARD OF 'valiselaw22.SeekNil'. -/
def seekNilUptoCard : Claim7 := { stood := { row := seekNilUptoRow, standIns := [], harness := (true, "afcc1fdf542cd8664623951129988f790117bd8d9c9f53248eba584dc004e74d"), looks := false }, kinds := [], alts := [], laidByText := true, laidKinds := [.data, .data, .data], laidTests := true, laidLooks := .later }
def SeekNilUptoCardSaid : Prop := Claim7.holds Tryd.pinned (.plain (OpenSpec.upto seekNilSpec)) seekNilUptoCard
end Rows
end Go.Proofs.YthnemjdmomljbaaDoor
