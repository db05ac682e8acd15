/-
  DERIVED. GIVEN WITH THE SEED: THE CARDS: each row of YtigdlnjlmjhdnaaGreatDoorRows.lean that lists a variable, with what it lists TIED to the program's text (the seventh form; the later family's looks); each row that meets fmt, with fmt's text TOLD by the authors' own Lean function (tested against real Go, not proved from fmt's source: count such statements apart). THE CARD IS WHAT COUNTS. Prove the row's statement (the work); the ties are given (YtigdlnjlmjhdnaaGreatDoorTie.lean); close each card by the builder's one call (the guide's Derived/Test/ToyasCard.lean, 'card_holds'). Laid BY PROGRAM, IN A SANDBOX (cutbox-door.mjs). By AI agents, Wed Nov 11 2026. No macro, syntax, notation, axiom, sorry.
-/
import Derived.Test.YtigdlnjlmjhdnaaGreatDoorRows
import GoSem.ClaimSeven
namespace Go.Proofs.YtigdlnjlmjhdnaaGreatDoor
namespace Rows

/-- THE TIED CARD OF 'gatepostlaw.UrlOrigins'. -/
def urlOriginsCard : Claim7 := { stood := { row := urlOriginsRow, standIns := [], harness := (true, "9a6b984d9e7177ab5ac6de0a8e36c37b0db5153efbf23cd39ae3da8f3cf825a5"), looks := true }, kinds := [], alts := [], laidByText := true, laidKinds := [.data, .data, .data, .data, .handle, .sentinel, .sentinel, .pinned], laidTests := true, laidLooks := .later }
def UrlOriginsCardSaid : Prop := Claim7.holds Tryz.pinned (.plain (OpenSpec.ofChange urlOriginsSpec)) urlOriginsCard

/-- THE TIED CARD OF 'gatepostlaw.UrlParses'. -/
def urlParsesCard : Claim7 := { stood := { row := urlParsesRow, standIns := [], harness := (true, "9a6b984d9e7177ab5ac6de0a8e36c37b0db5153efbf23cd39ae3da8f3cf825a5"), looks := true }, kinds := [], alts := [], laidByText := true, laidKinds := [.data, .data, .data, .data, .handle, .sentinel, .sentinel, .pinned], laidTests := true, laidLooks := .later }
def UrlParsesCardSaid : Prop := Claim7.holds Tryz.pinned (.plain (OpenSpec.ofChange urlParsesSpec)) urlParsesCard

/-- THE SECOND FORM's CARD OF 'gatepostlaw.UrlOrigins'. -/
def urlOriginsUptoCard : Claim7 := { stood := { row := urlOriginsUptoRow, standIns := [], harness := (true, "9a6b984d9e7177ab5ac6de0a8e36c37b0db5153efbf23cd39ae3da8f3cf825a5"), looks := true }, kinds := [], alts := [], laidByText := true, laidKinds := [.data, .data, .data, .data, .handle, .sentinel, .sentinel, .pinned], laidTests := true, laidLooks := .later }
def UrlOriginsUptoCardSaid : Prop := Claim7.holds Tryz.pinned (.plain (OpenSpec.upto urlOriginsSpec)) urlOriginsUptoCard

/-- THE SECOND FORM's CARD OF 'gatepostlaw.UrlParses'. -/
def urlParsesUptoCard : Claim7 := { stood := { row := urlParsesUptoRow, standIns := [], harness := (true, "9a6b984d9e7177ab5ac6de0a8e36c37b0db5153efbf23cd39ae3da8f3cf825a5"), looks := true }, kinds := [], alts := [], laidByText := true, laidKinds := [.data, .data, .data, .data, .handle, .sentinel, .sentinel, .pinned], laidTests := true, laidLooks := .later }
def UrlParsesUptoCardSaid : Prop := Claim7.holds Tryz.pinned (.plain (OpenSpec.upto urlParsesSpec)) urlParsesUptoCard
end Rows
end Go.Proofs.YtigdlnjlmjhdnaaGreatDoor
