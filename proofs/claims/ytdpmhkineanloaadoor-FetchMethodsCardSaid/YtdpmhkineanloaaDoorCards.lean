/-
  DERIVED. GIVEN WITH THE SEED: THE CARDS: each row of YtdpmhkineanloaaDoorRows.lean that lists a variable, with what it lists TIED to the program's text (the seventh form; the later family's looks); each row that meets fmt, with fmt's text TOLD by the authors' own Lean function (tested against real Go, not proved from fmt's source: count such statements apart). THE CARD IS WHAT COUNTS. Prove the row's statement (the work); the ties are given (YtdpmhkineanloaaDoorTie.lean); close each card by the builder's one call (the guide's Derived/Test/ToyasCard.lean, 'card_holds'). Laid BY PROGRAM, IN A SANDBOX (cutbox-door.mjs). By AI agents, Wed Nov 11 2026. No macro, syntax, notation, axiom, sorry.
-/
import Derived.Test.YtdpmhkineanloaaDoorRows
import GoSem.ClaimSeven
namespace Go.Proofs.YtdpmhkineanloaaDoor
namespace Rows

/-- THE TIED CARD OF 'gatepostlaw.CodingHex'. -/
def codingHexCard : Claim7 := { stood := { row := codingHexRow, standIns := [], harness := (true, "c6f9c4f02800d593c12e12d7ad35da13c2241944f8305ecdaea4a785251b7c39"), looks := true }, kinds := [], alts := [], laidByText := true, laidKinds := [.data, .data, .data], laidTests := true, laidLooks := .later }
def CodingHexCardSaid : Prop := Claim7.holds Tryd.pinned (.plain (OpenSpec.ofChange codingHexSpec)) codingHexCard

/-- THE TIED CARD OF 'gatepostlaw.UrlPrints'. -/
def urlPrintsCard : Claim7 := { stood := { row := urlPrintsRow, standIns := [], harness := (true, "c6f9c4f02800d593c12e12d7ad35da13c2241944f8305ecdaea4a785251b7c39"), looks := true }, kinds := [], alts := [], laidByText := true, laidKinds := [.data, .data, .data], laidTests := true, laidLooks := .later }
def UrlPrintsCardSaid : Prop := Claim7.holds Tryd.pinned (.plain (OpenSpec.ofChange urlPrintsSpec)) urlPrintsCard

/-- THE TIED CARD OF 'gatepostlaw.TokenGoes'. -/
def tokenGoesCard : Claim7 := { stood := { row := tokenGoesRow, standIns := [], harness := (true, "c6f9c4f02800d593c12e12d7ad35da13c2241944f8305ecdaea4a785251b7c39"), looks := true }, kinds := [], alts := [], laidByText := true, laidKinds := [.data, .pinned], laidTests := true, laidLooks := .later }
def TokenGoesCardSaid : Prop := Claim7.holds Tryd.pinned (.plain (OpenSpec.ofChange tokenGoesSpec)) tokenGoesCard

/-- THE TIED CARD OF 'gatepostlaw.CorsMays'. -/
def corsMaysCard : Claim7 := { stood := { row := corsMaysRow, standIns := [], harness := (true, "c6f9c4f02800d593c12e12d7ad35da13c2241944f8305ecdaea4a785251b7c39"), looks := true }, kinds := [], alts := [], laidByText := true, laidKinds := [.data, .data, .data], laidTests := true, laidLooks := .later }
def CorsMaysCardSaid : Prop := Claim7.holds Tryd.pinned (.plain (OpenSpec.ofChange corsMaysSpec)) corsMaysCard

/-- THE TIED CARD OF 'gatepostlaw.FetchMethods'. -/
def fetchMethodsCard : Claim7 := { stood := { row := fetchMethodsRow, standIns := [], harness := (true, "c6f9c4f02800d593c12e12d7ad35da13c2241944f8305ecdaea4a785251b7c39"), looks := true }, kinds := [], alts := [], laidByText := true, laidKinds := [.data, .pinned, .pinned], laidTests := true, laidLooks := .later }
def FetchMethodsCardSaid : Prop := Claim7.holds Tryd.pinned (.plain (OpenSpec.ofChange fetchMethodsSpec)) fetchMethodsCard

/-- THE TIED CARD OF 'gatepostlaw.UrlCleans'. -/
def urlCleansCard : Claim7 := { stood := { row := urlCleansRow, standIns := [], harness := (true, "c6f9c4f02800d593c12e12d7ad35da13c2241944f8305ecdaea4a785251b7c39"), looks := true }, kinds := [], alts := [], laidByText := true, laidKinds := [.data, .pinned], laidTests := true, laidLooks := .later }
def UrlCleansCardSaid : Prop := Claim7.holds Tryd.pinned (.plain (OpenSpec.ofChange urlCleansSpec)) urlCleansCard

/-- THE TIED CARD OF 'gatepostlaw.ProofCounts'. -/
def proofCountsCard : Claim7 := { stood := { row := proofCountsRow, standIns := [], harness := (true, "c6f9c4f02800d593c12e12d7ad35da13c2241944f8305ecdaea4a785251b7c39"), looks := true }, kinds := [], alts := [], laidByText := true, laidKinds := [.data, .data, .data], laidTests := true, laidLooks := .later }
def ProofCountsCardSaid : Prop := Claim7.holds Tryd.pinned (.plain (OpenSpec.ofChange proofCountsSpec)) proofCountsCard

/-- THE TIED CARD OF 'gatepostlaw.BankKeeps'. -/
def bankKeepsCard : Claim7 := { stood := { row := bankKeepsRow, standIns := [], harness := (true, "c6f9c4f02800d593c12e12d7ad35da13c2241944f8305ecdaea4a785251b7c39"), looks := true }, kinds := [], alts := [], laidByText := true, laidKinds := [.handle], laidTests := true, laidLooks := .later }
def BankKeepsCardSaid : Prop := Claim7.holds Tryd.pinned (.plain (OpenSpec.ofChange bankKeepsSpec)) bankKeepsCard

/-- THE TIED CARD OF 'gatepostlaw.CorsAges'. -/
def corsAgesCard : Claim7 := { stood := { row := corsAgesRow, standIns := [], harness := (true, "c6f9c4f02800d593c12e12d7ad35da13c2241944f8305ecdaea4a785251b7c39"), looks := true }, kinds := [], alts := [], laidByText := true, laidKinds := [.data, .pinned], laidTests := true, laidLooks := .later }
def CorsAgesCardSaid : Prop := Claim7.holds Tryd.pinned (.plain (OpenSpec.ofChange corsAgesSpec)) corsAgesCard

/-- THE TIED CARD OF 'gatepostlaw.CodingUnhex'. -/
def codingUnhexCard : Claim7 := { stood := { row := codingUnhexRow, standIns := [], harness := (true, "c6f9c4f02800d593c12e12d7ad35da13c2241944f8305ecdaea4a785251b7c39"), looks := true }, kinds := [], alts := [], laidByText := true, laidKinds := [.data, .data, .data, .handle], laidTests := true, laidLooks := .later }
def CodingUnhexCardSaid : Prop := Claim7.holds Tryd.pinned (.plain (OpenSpec.ofChange codingUnhexSpec)) codingUnhexCard

/-- THE TIED CARD OF 'gatepostlaw.UrlRights'. -/
def urlRightsCard : Claim7 := { stood := { row := urlRightsRow, standIns := [], harness := (true, "c6f9c4f02800d593c12e12d7ad35da13c2241944f8305ecdaea4a785251b7c39"), looks := true }, kinds := [], alts := [], laidByText := true, laidKinds := [.data, .pinned], laidTests := true, laidLooks := .later }
def UrlRightsCardSaid : Prop := Claim7.holds Tryd.pinned (.plain (OpenSpec.ofChange urlRightsSpec)) urlRightsCard

/-- THE TIED CARD OF 'gatepostlaw.TokenSeconds'. -/
def tokenSecondsCard : Claim7 := { stood := { row := tokenSecondsRow, standIns := [], harness := (true, "c6f9c4f02800d593c12e12d7ad35da13c2241944f8305ecdaea4a785251b7c39"), looks := true }, kinds := [], alts := [], laidByText := true, laidKinds := [.data, .handle, .pinned], laidTests := true, laidLooks := .later }
def TokenSecondsCardSaid : Prop := Claim7.holds Tryd.pinned (.plain (OpenSpec.ofChange tokenSecondsSpec)) tokenSecondsCard

/-- THE SECOND FORM's CARD OF 'gatepostlaw.CodingHex'. -/
def codingHexUptoCard : Claim7 := { stood := { row := codingHexUptoRow, standIns := [], harness := (true, "c6f9c4f02800d593c12e12d7ad35da13c2241944f8305ecdaea4a785251b7c39"), looks := true }, kinds := [], alts := [], laidByText := true, laidKinds := [.data, .data, .data], laidTests := true, laidLooks := .later }
def CodingHexUptoCardSaid : Prop := Claim7.holds Tryd.pinned (.plain (OpenSpec.upto codingHexSpec)) codingHexUptoCard

/-- THE SECOND FORM's CARD OF 'gatepostlaw.UrlPrints'. -/
def urlPrintsUptoCard : Claim7 := { stood := { row := urlPrintsUptoRow, standIns := [], harness := (true, "c6f9c4f02800d593c12e12d7ad35da13c2241944f8305ecdaea4a785251b7c39"), looks := true }, kinds := [], alts := [], laidByText := true, laidKinds := [.data, .data, .data], laidTests := true, laidLooks := .later }
def UrlPrintsUptoCardSaid : Prop := Claim7.holds Tryd.pinned (.plain (OpenSpec.upto urlPrintsSpec)) urlPrintsUptoCard

/-- THE SECOND FORM's CARD OF 'gatepostlaw.TokenGoes'. -/
def tokenGoesUptoCard : Claim7 := { stood := { row := tokenGoesUptoRow, standIns := [], harness := (true, "c6f9c4f02800d593c12e12d7ad35da13c2241944f8305ecdaea4a785251b7c39"), looks := true }, kinds := [], alts := [], laidByText := true, laidKinds := [.data, .pinned], laidTests := true, laidLooks := .later }
def TokenGoesUptoCardSaid : Prop := Claim7.holds Tryd.pinned (.plain (OpenSpec.upto tokenGoesSpec)) tokenGoesUptoCard

/-- THE SECOND FORM's CARD OF 'gatepostlaw.CorsMays'. -/
def corsMaysUptoCard : Claim7 := { stood := { row := corsMaysUptoRow, standIns := [], harness := (true, "c6f9c4f02800d593c12e12d7ad35da13c2241944f8305ecdaea4a785251b7c39"), looks := true }, kinds := [], alts := [], laidByText := true, laidKinds := [.data, .data, .data], laidTests := true, laidLooks := .later }
def CorsMaysUptoCardSaid : Prop := Claim7.holds Tryd.pinned (.plain (OpenSpec.upto corsMaysSpec)) corsMaysUptoCard

/-- THE SECOND FORM's CARD OF 'gatepostlaw.FetchMethods'. -/
def fetchMethodsUptoCard : Claim7 := { stood := { row := fetchMethodsUptoRow, standIns := [], harness := (true, "c6f9c4f02800d593c12e12d7ad35da13c2241944f8305ecdaea4a785251b7c39"), looks := true }, kinds := [], alts := [], laidByText := true, laidKinds := [.data, .pinned, .pinned], laidTests := true, laidLooks := .later }
def FetchMethodsUptoCardSaid : Prop := Claim7.holds Tryd.pinned (.plain (OpenSpec.upto fetchMethodsSpec)) fetchMethodsUptoCard

/-- THE SECOND FORM's CARD OF 'gatepostlaw.UrlCleans'. -/
def urlCleansUptoCard : Claim7 := { stood := { row := urlCleansUptoRow, standIns := [], harness := (true, "c6f9c4f02800d593c12e12d7ad35da13c2241944f8305ecdaea4a785251b7c39"), looks := true }, kinds := [], alts := [], laidByText := true, laidKinds := [.data, .pinned], laidTests := true, laidLooks := .later }
def UrlCleansUptoCardSaid : Prop := Claim7.holds Tryd.pinned (.plain (OpenSpec.upto urlCleansSpec)) urlCleansUptoCard

/-- THE SECOND FORM's CARD OF 'gatepostlaw.ProofCounts'. -/
def proofCountsUptoCard : Claim7 := { stood := { row := proofCountsUptoRow, standIns := [], harness := (true, "c6f9c4f02800d593c12e12d7ad35da13c2241944f8305ecdaea4a785251b7c39"), looks := true }, kinds := [], alts := [], laidByText := true, laidKinds := [.data, .data, .data], laidTests := true, laidLooks := .later }
def ProofCountsUptoCardSaid : Prop := Claim7.holds Tryd.pinned (.plain (OpenSpec.upto proofCountsSpec)) proofCountsUptoCard

/-- THE SECOND FORM's CARD OF 'gatepostlaw.BankKeeps'. -/
def bankKeepsUptoCard : Claim7 := { stood := { row := bankKeepsUptoRow, standIns := [], harness := (true, "c6f9c4f02800d593c12e12d7ad35da13c2241944f8305ecdaea4a785251b7c39"), looks := true }, kinds := [], alts := [], laidByText := true, laidKinds := [.handle], laidTests := true, laidLooks := .later }
def BankKeepsUptoCardSaid : Prop := Claim7.holds Tryd.pinned (.plain (OpenSpec.upto bankKeepsSpec)) bankKeepsUptoCard

/-- THE SECOND FORM's CARD OF 'gatepostlaw.CorsAges'. -/
def corsAgesUptoCard : Claim7 := { stood := { row := corsAgesUptoRow, standIns := [], harness := (true, "c6f9c4f02800d593c12e12d7ad35da13c2241944f8305ecdaea4a785251b7c39"), looks := true }, kinds := [], alts := [], laidByText := true, laidKinds := [.data, .pinned], laidTests := true, laidLooks := .later }
def CorsAgesUptoCardSaid : Prop := Claim7.holds Tryd.pinned (.plain (OpenSpec.upto corsAgesSpec)) corsAgesUptoCard

/-- THE SECOND FORM's CARD OF 'gatepostlaw.CodingUnhex'. -/
def codingUnhexUptoCard : Claim7 := { stood := { row := codingUnhexUptoRow, standIns := [], harness := (true, "c6f9c4f02800d593c12e12d7ad35da13c2241944f8305ecdaea4a785251b7c39"), looks := true }, kinds := [], alts := [], laidByText := true, laidKinds := [.data, .data, .data, .handle], laidTests := true, laidLooks := .later }
def CodingUnhexUptoCardSaid : Prop := Claim7.holds Tryd.pinned (.plain (OpenSpec.upto codingUnhexSpec)) codingUnhexUptoCard

/-- THE SECOND FORM's CARD OF 'gatepostlaw.UrlRights'. -/
def urlRightsUptoCard : Claim7 := { stood := { row := urlRightsUptoRow, standIns := [], harness := (true, "c6f9c4f02800d593c12e12d7ad35da13c2241944f8305ecdaea4a785251b7c39"), looks := true }, kinds := [], alts := [], laidByText := true, laidKinds := [.data, .pinned], laidTests := true, laidLooks := .later }
def UrlRightsUptoCardSaid : Prop := Claim7.holds Tryd.pinned (.plain (OpenSpec.upto urlRightsSpec)) urlRightsUptoCard

/-- THE SECOND FORM's CARD OF 'gatepostlaw.TokenSeconds'. -/
def tokenSecondsUptoCard : Claim7 := { stood := { row := tokenSecondsUptoRow, standIns := [], harness := (true, "c6f9c4f02800d593c12e12d7ad35da13c2241944f8305ecdaea4a785251b7c39"), looks := true }, kinds := [], alts := [], laidByText := true, laidKinds := [.data, .handle, .pinned], laidTests := true, laidLooks := .later }
def TokenSecondsUptoCardSaid : Prop := Claim7.holds Tryd.pinned (.plain (OpenSpec.upto tokenSecondsSpec)) tokenSecondsUptoCard
end Rows
end Go.Proofs.YtdpmhkineanloaaDoor
