/-
  DERIVED. GIVEN WITH THE SEED: THE CARDS: each row of YtnggicpmncokdaaGreatDoorRows.lean that lists a variable, with what it lists TIED to the program's text (the seventh form; the later family's looks); each row that meets fmt, with fmt's text TOLD by the authors' own Lean function (tested against real Go, not proved from fmt's source: count such statements apart). THE CARD IS WHAT COUNTS. Prove the row's statement (the work); the ties are given (YtnggicpmncokdaaGreatDoorTie.lean); close each card by the builder's one call (the guide's Derived/Test/ToyasCard.lean, 'card_holds'). Laid BY PROGRAM, IN A SANDBOX (cutbox-door.mjs). By AI agents, Wed Nov 11 2026. No macro, syntax, notation, axiom, sorry.
-/
import Derived.Test.YtnggicpmncokdaaGreatDoorRows
import GoSem.ClaimSeven
namespace Go.Proofs.YtnggicpmncokdaaGreatDoor
namespace Rows

/-- THE TIED CARD OF 'gatepostlaw.CorsGrants'. -/
def corsGrantsCard : Claim7 := { stood := { row := corsGrantsRow, standIns := [], harness := (true, "7bfefe246e90dd68e7cb62d02f5a56b6464aaf17d43f927437b56fb65e12e467"), looks := true }, kinds := [], alts := [], laidByText := true, laidKinds := [.data, .data, .data, .data, .handle, .pinned, .pinned], laidTests := true, laidLooks := .later }
def CorsGrantsCardSaid : Prop := Claim7.holds Tryz.pinned (.plain (OpenSpec.ofChange corsGrantsSpec)) corsGrantsCard

/-- THE TIED CARD OF 'gatepostlaw.BookKeeps'. -/
def bookKeepsCard : Claim7 := { stood := { row := bookKeepsRow, standIns := [], harness := (true, "7bfefe246e90dd68e7cb62d02f5a56b6464aaf17d43f927437b56fb65e12e467"), looks := true }, kinds := [], alts := [], laidByText := true, laidKinds := [.data, .pinned, .pinned], laidTests := true, laidLooks := .later }
def BookKeepsCardSaid : Prop := Claim7.holds Tryz.pinned (.plain (OpenSpec.ofChange bookKeepsSpec)) bookKeepsCard

/-- THE SECOND FORM's CARD OF 'gatepostlaw.CorsGrants'. -/
def corsGrantsUptoCard : Claim7 := { stood := { row := corsGrantsUptoRow, standIns := [], harness := (true, "7bfefe246e90dd68e7cb62d02f5a56b6464aaf17d43f927437b56fb65e12e467"), looks := true }, kinds := [], alts := [], laidByText := true, laidKinds := [.data, .data, .data, .data, .handle, .pinned, .pinned], laidTests := true, laidLooks := .later }
def CorsGrantsUptoCardSaid : Prop := Claim7.holds Tryz.pinned (.plain (OpenSpec.upto corsGrantsSpec)) corsGrantsUptoCard

/-- THE SECOND FORM's CARD OF 'gatepostlaw.BookKeeps'. -/
def bookKeepsUptoCard : Claim7 := { stood := { row := bookKeepsUptoRow, standIns := [], harness := (true, "7bfefe246e90dd68e7cb62d02f5a56b6464aaf17d43f927437b56fb65e12e467"), looks := true }, kinds := [], alts := [], laidByText := true, laidKinds := [.data, .pinned, .pinned], laidTests := true, laidLooks := .later }
def BookKeepsUptoCardSaid : Prop := Claim7.holds Tryz.pinned (.plain (OpenSpec.upto bookKeepsSpec)) bookKeepsUptoCard
end Rows
end Go.Proofs.YtnggicpmncokdaaGreatDoor
