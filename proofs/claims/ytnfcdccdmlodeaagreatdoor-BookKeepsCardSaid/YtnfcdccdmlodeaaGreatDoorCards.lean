/-
  DERIVED. GIVEN WITH THE SEED: THE CARDS: each row of YtnfcdccdmlodeaaGreatDoorRows.lean that lists a variable, with what it lists TIED to the program's text (the seventh form; the later family's looks); each row that meets fmt, with fmt's text TOLD by the authors' own Lean function (tested against real Go, not proved from fmt's source: count such statements apart). THE CARD IS WHAT COUNTS. Prove the row's statement (the work); the ties are given (YtnfcdccdmlodeaaGreatDoorTie.lean); close each card by the builder's one call (the guide's Derived/Test/ToyasCard.lean, 'card_holds'). Laid BY PROGRAM, IN A SANDBOX (cutbox-door.mjs). By AI agents, Wed Nov 11 2026. No macro, syntax, notation, axiom, sorry.
-/
import Derived.Test.YtnfcdccdmlodeaaGreatDoorRows
import GoSem.ClaimSeven
namespace Go.Proofs.YtnfcdccdmlodeaaGreatDoor
namespace Rows

/-- THE TIED CARD OF 'gatepostlaw.BookKeeps'. -/
def bookKeepsCard : Claim7 := { stood := { row := bookKeepsRow, standIns := [], harness := (true, "57c268aeb54e16694d331ff75d63f49f471293a596e0075eb720e88fefbc5b10"), looks := true }, kinds := [], alts := [], laidByText := true, laidKinds := [.data, .pinned, .pinned], laidTests := true, laidLooks := .later }
def BookKeepsCardSaid : Prop := Claim7.holds Tryz.pinned (.plain (OpenSpec.ofChange bookKeepsSpec)) bookKeepsCard

/-- THE TIED CARD OF 'gatepostlaw.WorldDoes'. -/
def worldDoesCard : Claim7 := { stood := { row := worldDoesRow, standIns := [], harness := (true, "57c268aeb54e16694d331ff75d63f49f471293a596e0075eb720e88fefbc5b10"), looks := true }, kinds := [], alts := [], laidByText := true, laidKinds := [.data, .data, .data, .data, .data, .data, .data, .sentinel, .sentinel, .data, .pinned, .pinned], laidTests := true, laidLooks := .later }
def WorldDoesCardSaid : Prop := Claim7.holds Tryz.pinned (.plain (OpenSpec.ofChange worldDoesSpec)) worldDoesCard

/-- THE SECOND FORM's CARD OF 'gatepostlaw.BookKeeps'. -/
def bookKeepsUptoCard : Claim7 := { stood := { row := bookKeepsUptoRow, standIns := [], harness := (true, "57c268aeb54e16694d331ff75d63f49f471293a596e0075eb720e88fefbc5b10"), looks := true }, kinds := [], alts := [], laidByText := true, laidKinds := [.data, .pinned, .pinned], laidTests := true, laidLooks := .later }
def BookKeepsUptoCardSaid : Prop := Claim7.holds Tryz.pinned (.plain (OpenSpec.upto bookKeepsSpec)) bookKeepsUptoCard

/-- THE SECOND FORM's CARD OF 'gatepostlaw.WorldDoes'. -/
def worldDoesUptoCard : Claim7 := { stood := { row := worldDoesUptoRow, standIns := [], harness := (true, "57c268aeb54e16694d331ff75d63f49f471293a596e0075eb720e88fefbc5b10"), looks := true }, kinds := [], alts := [], laidByText := true, laidKinds := [.data, .data, .data, .data, .data, .data, .data, .sentinel, .sentinel, .data, .pinned, .pinned], laidTests := true, laidLooks := .later }
def WorldDoesUptoCardSaid : Prop := Claim7.holds Tryz.pinned (.plain (OpenSpec.upto worldDoesSpec)) worldDoesUptoCard
end Rows
end Go.Proofs.YtnfcdccdmlodeaaGreatDoor
