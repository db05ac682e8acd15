/-
  DERIVED. GIVEN WITH THE SEED: THE CARDS: each row of YthmkilglidfdiaaGreatDoorRows.lean that lists a variable, with what it lists TIED to the program's text (the seventh form; the later family's looks); each row that meets fmt, with fmt's text TOLD by the authors' own Lean function (tested against real Go, not proved from fmt's source: count such statements apart). THE CARD IS WHAT COUNTS. Prove the row's statement (the work); the ties are given (YthmkilglidfdiaaGreatDoorTie.lean); close each card by the builder's one call (the guide's Derived/Test/ToyasCard.lean, 'card_holds'). Laid BY PROGRAM, IN A SANDBOX (cutbox-door.mjs). By AI agents, Wed Nov 11 2026. No macro, syntax, notation, axiom, sorry.
-/
import Derived.Test.YthmkilglidfdiaaGreatDoorRows
import GoSem.ClaimSeven
namespace Go.Proofs.YthmkilglidfdiaaGreatDoor
namespace Rows

/-- THE TIED CARD OF 'gatepostlaw.UrlParses'. -/
def urlParsesCard : Claim7 := { stood := { row := urlParsesRow, standIns := [], harness := (true, "5ad92d31c367311dba51b5032abc78723544b2065b32f345918f28caaab1f141"), looks := true }, kinds := [], alts := [], laidByText := true, laidKinds := [.data, .data, .data, .data, .handle, .sentinel, .sentinel, .pinned], laidTests := true, laidLooks := .later }
def UrlParsesCardSaid : Prop := Claim7.holds Tryz.pinned (.plain (OpenSpec.ofChange urlParsesSpec)) urlParsesCard

/-- THE SECOND FORM's CARD OF 'gatepostlaw.UrlParses'. -/
def urlParsesUptoCard : Claim7 := { stood := { row := urlParsesUptoRow, standIns := [], harness := (true, "5ad92d31c367311dba51b5032abc78723544b2065b32f345918f28caaab1f141"), looks := true }, kinds := [], alts := [], laidByText := true, laidKinds := [.data, .data, .data, .data, .handle, .sentinel, .sentinel, .pinned], laidTests := true, laidLooks := .later }
def UrlParsesUptoCardSaid : Prop := Claim7.holds Tryz.pinned (.plain (OpenSpec.upto urlParsesSpec)) urlParsesUptoCard
end Rows
end Go.Proofs.YthmkilglidfdiaaGreatDoor
