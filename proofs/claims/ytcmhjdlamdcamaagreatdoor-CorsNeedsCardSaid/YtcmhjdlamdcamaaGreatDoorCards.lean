/-
  DERIVED. GIVEN WITH THE SEED: THE CARDS: each row of YtcmhjdlamdcamaaGreatDoorRows.lean that lists a variable, with what it lists TIED to the program's text (the seventh form; the later family's looks); each row that meets fmt, with fmt's text TOLD by the authors' own Lean function (tested against real Go, not proved from fmt's source: count such statements apart). THE CARD IS WHAT COUNTS. Prove the row's statement (the work); the ties are given (YtcmhjdlamdcamaaGreatDoorTie.lean); close each card by the builder's one call (the guide's Derived/Test/ToyasCard.lean, 'card_holds'). Laid BY PROGRAM, IN A SANDBOX (cutbox-door.mjs). By AI agents, Wed Nov 11 2026. No macro, syntax, notation, axiom, sorry.
-/
import Derived.Test.YtcmhjdlamdcamaaGreatDoorRows
import GoSem.ClaimSeven
namespace Go.Proofs.YtcmhjdlamdcamaaGreatDoor
namespace Rows

/-- THE TIED CARD OF 'gatepostlaw.CorsCovers'. -/
def corsCoversCard : Claim7 := { stood := { row := corsCoversRow, standIns := [], harness := (true, "0e83406b3ccdfe9ac79ef756764249bd6312fdaccdffe4f7df51ddca620060b5"), looks := false }, kinds := [], alts := [], laidByText := true, laidKinds := [.data, .pinned, .pinned], laidTests := true, laidLooks := .later }
def CorsCoversCardSaid : Prop := Claim7.holds Tryz.pinned (.plain (OpenSpec.ofChange corsCoversSpec)) corsCoversCard

/-- THE TIED CARD OF 'gatepostlaw.CorsNeeds'. -/
def corsNeedsCard : Claim7 := { stood := { row := corsNeedsRow, standIns := [], harness := (true, "0e83406b3ccdfe9ac79ef756764249bd6312fdaccdffe4f7df51ddca620060b5"), looks := false }, kinds := [], alts := [], laidByText := true, laidKinds := [.data, .pinned, .pinned], laidTests := true, laidLooks := .later }
def CorsNeedsCardSaid : Prop := Claim7.holds Tryz.pinned (.plain (OpenSpec.ofChange corsNeedsSpec)) corsNeedsCard

/-- THE SECOND FORM's CARD OF 'gatepostlaw.CorsCovers'. -/
def corsCoversUptoCard : Claim7 := { stood := { row := corsCoversUptoRow, standIns := [], harness := (true, "0e83406b3ccdfe9ac79ef756764249bd6312fdaccdffe4f7df51ddca620060b5"), looks := false }, kinds := [], alts := [], laidByText := true, laidKinds := [.data, .pinned, .pinned], laidTests := true, laidLooks := .later }
def CorsCoversUptoCardSaid : Prop := Claim7.holds Tryz.pinned (.plain (OpenSpec.upto corsCoversSpec)) corsCoversUptoCard

/-- THE SECOND FORM's CARD OF 'gatepostlaw.CorsNeeds'. -/
def corsNeedsUptoCard : Claim7 := { stood := { row := corsNeedsUptoRow, standIns := [], harness := (true, "0e83406b3ccdfe9ac79ef756764249bd6312fdaccdffe4f7df51ddca620060b5"), looks := false }, kinds := [], alts := [], laidByText := true, laidKinds := [.data, .pinned, .pinned], laidTests := true, laidLooks := .later }
def CorsNeedsUptoCardSaid : Prop := Claim7.holds Tryz.pinned (.plain (OpenSpec.upto corsNeedsSpec)) corsNeedsUptoCard
end Rows
end Go.Proofs.YtcmhjdlamdcamaaGreatDoor
