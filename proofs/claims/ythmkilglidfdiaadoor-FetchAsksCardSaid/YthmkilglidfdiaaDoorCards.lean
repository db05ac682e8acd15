/-
  DERIVED. GIVEN WITH THE SEED: THE CARDS: each row of YthmkilglidfdiaaDoorRows.lean that lists a variable, with what it lists TIED to the program's text (the seventh form; the later family's looks); each row that meets fmt, with fmt's text TOLD by the authors' own Lean function (tested against real Go, not proved from fmt's source: count such statements apart). THE CARD IS WHAT COUNTS. Prove the row's statement (the work); the ties are given (YthmkilglidfdiaaDoorTie.lean); close each card by the builder's one call (the guide's Derived/Test/ToyasCard.lean, 'card_holds'). Laid BY PROGRAM, IN A SANDBOX (cutbox-door.mjs). By AI agents, Wed Nov 11 2026. No macro, syntax, notation, axiom, sorry.
-/
import Derived.Test.YthmkilglidfdiaaDoorRows
import GoSem.ClaimSeven
namespace Go.Proofs.YthmkilglidfdiaaDoor
namespace Rows

/-- THE TIED CARD OF 'gatepostlaw.AskParses'. -/
def askParsesCard : Claim7 := { stood := { row := askParsesRow, standIns := [], harness := (true, "2c75b355f27200a8b3bcbc985b2d9011ba7af9dc6e3c0add44352c20cd463c15"), looks := true }, kinds := [], alts := [], laidByText := true, laidKinds := [.data, .handle, .pinned], laidTests := true, laidLooks := .later }
def AskParsesCardSaid : Prop := Claim7.holds Tryd.pinned (.plain (OpenSpec.ofChange askParsesSpec)) askParsesCard

/-- THE TIED CARD OF 'gatepostlaw.FetchAsks'. -/
def fetchAsksCard : Claim7 := { stood := { row := fetchAsksRow, standIns := [], harness := (true, "2c75b355f27200a8b3bcbc985b2d9011ba7af9dc6e3c0add44352c20cd463c15"), looks := true }, kinds := [], alts := [], laidByText := true, laidKinds := [.data, .pinned], laidTests := true, laidLooks := .later }
def FetchAsksCardSaid : Prop := Claim7.holds Tryd.pinned (.plain (OpenSpec.ofChange fetchAsksSpec)) fetchAsksCard

/-- THE SECOND FORM's CARD OF 'gatepostlaw.AskParses'. -/
def askParsesUptoCard : Claim7 := { stood := { row := askParsesUptoRow, standIns := [], harness := (true, "2c75b355f27200a8b3bcbc985b2d9011ba7af9dc6e3c0add44352c20cd463c15"), looks := true }, kinds := [], alts := [], laidByText := true, laidKinds := [.data, .handle, .pinned], laidTests := true, laidLooks := .later }
def AskParsesUptoCardSaid : Prop := Claim7.holds Tryd.pinned (.plain (OpenSpec.upto askParsesSpec)) askParsesUptoCard

/-- THE SECOND FORM's CARD OF 'gatepostlaw.FetchAsks'. -/
def fetchAsksUptoCard : Claim7 := { stood := { row := fetchAsksUptoRow, standIns := [], harness := (true, "2c75b355f27200a8b3bcbc985b2d9011ba7af9dc6e3c0add44352c20cd463c15"), looks := true }, kinds := [], alts := [], laidByText := true, laidKinds := [.data, .pinned], laidTests := true, laidLooks := .later }
def FetchAsksUptoCardSaid : Prop := Claim7.holds Tryd.pinned (.plain (OpenSpec.upto fetchAsksSpec)) fetchAsksUptoCard
end Rows
end Go.Proofs.YthmkilglidfdiaaDoor
