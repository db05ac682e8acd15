/-
  DERIVED. GIVEN WITH THE SEED: THE CARDS: each row of YtchgpdgigpaloaaDoorRows.lean that lists a variable, with what it lists TIED to the program's text (the seventh form; the later family's looks); each row that meets fmt, with fmt's text TOLD by the authors' own Lean function (tested against real Go, not proved from fmt's source: count such statements apart). THE CARD IS WHAT COUNTS. Prove the row's statement (the work); the ties are given (YtchgpdgigpaloaaDoorTie.lean); close each card by the builder's one call (the guide's Derived/Test/ToyasCard.lean, 'card_holds'). Laid BY PROGRAM, IN A SANDBOX (cutbox-door.mjs). By AI agents, Wed Nov 11 2026. No macro, syntax, notation, axiom, sorry.
-/
import Derived.Test.YtchgpdgigpaloaaDoorRows
import GoSem.ClaimSeven
namespace Go.Proofs.YtchgpdgigpaloaaDoor
namespace Rows

/-- THE TIED CARD OF 'gatepostlaw.BankKeeps'. -/
def bankKeepsCard : Claim7 := { stood := { row := bankKeepsRow, standIns := [], harness := (true, "67145a8f413acb6d8a245c5f6c76c9e2c06ef5c15a19eb09a050ad0b22cd6234"), looks := true }, kinds := [], alts := [], laidByText := true, laidKinds := [.handle], laidTests := true, laidLooks := .later }
def BankKeepsCardSaid : Prop := Claim7.holds Tryd.pinned (.plain (OpenSpec.ofChange bankKeepsSpec)) bankKeepsCard

/-- THE SECOND FORM's CARD OF 'gatepostlaw.BankKeeps'. -/
def bankKeepsUptoCard : Claim7 := { stood := { row := bankKeepsUptoRow, standIns := [], harness := (true, "67145a8f413acb6d8a245c5f6c76c9e2c06ef5c15a19eb09a050ad0b22cd6234"), looks := true }, kinds := [], alts := [], laidByText := true, laidKinds := [.handle], laidTests := true, laidLooks := .later }
def BankKeepsUptoCardSaid : Prop := Claim7.holds Tryd.pinned (.plain (OpenSpec.upto bankKeepsSpec)) bankKeepsUptoCard
end Rows
end Go.Proofs.YtchgpdgigpaloaaDoor
