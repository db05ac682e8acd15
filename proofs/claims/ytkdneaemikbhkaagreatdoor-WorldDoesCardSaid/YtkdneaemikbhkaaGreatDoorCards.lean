/-
  DERIVED. GIVEN WITH THE SEED: THE CARDS: each row of YtkdneaemikbhkaaGreatDoorRows.lean that lists a variable, with what it lists TIED to the program's text (the seventh form; the later family's looks); each row that meets fmt, with fmt's text TOLD by the authors' own Lean function (tested against real Go, not proved from fmt's source: count such statements apart). THE CARD IS WHAT COUNTS. Prove the row's statement (the work); the ties are given (YtkdneaemikbhkaaGreatDoorTie.lean); close each card by the builder's one call (the guide's Derived/Test/ToyasCard.lean, 'card_holds'). Laid BY PROGRAM, IN A SANDBOX (cutbox-door.mjs). By AI agents, Wed Nov 11 2026. No macro, syntax, notation, axiom, sorry.
-/
import Derived.Test.YtkdneaemikbhkaaGreatDoorRows
import GoSem.ClaimSeven
namespace Go.Proofs.YtkdneaemikbhkaaGreatDoor
namespace Rows

/-- THE TIED CARD OF 'gatepostlaw.WorldDoes'. -/
def worldDoesCard : Claim7 := { stood := { row := worldDoesRow, standIns := [], harness := (true, "8fa48e9eb78001ba45ccb635aef1b8feef159bb4544f23fbcd6b5a25efddca0a"), looks := true }, kinds := [], alts := [], laidByText := true, laidKinds := [.data, .data, .data, .data, .data, .data, .data, .sentinel, .sentinel, .data, .pinned, .pinned], laidTests := true, laidLooks := .later }
def WorldDoesCardSaid : Prop := Claim7.holds Tryz.pinned (.plain (OpenSpec.ofChange worldDoesSpec)) worldDoesCard

/-- THE SECOND FORM's CARD OF 'gatepostlaw.WorldDoes'. -/
def worldDoesUptoCard : Claim7 := { stood := { row := worldDoesUptoRow, standIns := [], harness := (true, "8fa48e9eb78001ba45ccb635aef1b8feef159bb4544f23fbcd6b5a25efddca0a"), looks := true }, kinds := [], alts := [], laidByText := true, laidKinds := [.data, .data, .data, .data, .data, .data, .data, .sentinel, .sentinel, .data, .pinned, .pinned], laidTests := true, laidLooks := .later }
def WorldDoesUptoCardSaid : Prop := Claim7.holds Tryz.pinned (.plain (OpenSpec.upto worldDoesSpec)) worldDoesUptoCard
end Rows
end Go.Proofs.YtkdneaemikbhkaaGreatDoor
