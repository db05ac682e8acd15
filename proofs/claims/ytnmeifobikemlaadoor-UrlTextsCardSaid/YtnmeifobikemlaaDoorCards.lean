/-
  DERIVED. GIVEN WITH THE SEED: THE CARDS: each row of YtnmeifobikemlaaDoorRows.lean that lists a variable, with what it lists TIED to the program's text (the seventh form; the later family's looks); each row that meets fmt, with fmt's text TOLD by the authors' own Lean function (tested against real Go, not proved from fmt's source: count such statements apart). THE CARD IS WHAT COUNTS. Prove the row's statement (the work); the ties are given (YtnmeifobikemlaaDoorTie.lean); close each card by the builder's one call (the guide's Derived/Test/ToyasCard.lean, 'card_holds'). Laid BY PROGRAM, IN A SANDBOX (cutbox-door.mjs). By AI agents, Wed Nov 11 2026. No macro, syntax, notation, axiom, sorry.
-/
import Derived.Test.YtnmeifobikemlaaDoorRows
import GoSem.ClaimSeven
namespace Go.Proofs.YtnmeifobikemlaaDoor
namespace Rows

/-- THE TIED CARD OF 'gatepostlaw.TokenQuotes'. -/
def tokenQuotesCard : Claim7 := { stood := { row := tokenQuotesRow, standIns := [], harness := (true, "26124ca958b7fbaf642c7c4e1b0866ce17a94df2f7eddf3611d88b7b78ac163f"), looks := true }, kinds := [], alts := [], laidByText := true, laidKinds := [.handle], laidTests := true, laidLooks := .later }
def TokenQuotesCardSaid : Prop := Claim7.holds Tryd.pinned (.plain (OpenSpec.ofChange tokenQuotesSpec)) tokenQuotesCard

/-- THE TIED CARD OF 'gatepostlaw.TokenValues'. -/
def tokenValuesCard : Claim7 := { stood := { row := tokenValuesRow, standIns := [], harness := (true, "26124ca958b7fbaf642c7c4e1b0866ce17a94df2f7eddf3611d88b7b78ac163f"), looks := true }, kinds := [], alts := [], laidByText := true, laidKinds := [.handle], laidTests := true, laidLooks := .later }
def TokenValuesCardSaid : Prop := Claim7.holds Tryd.pinned (.plain (OpenSpec.ofChange tokenValuesSpec)) tokenValuesCard

/-- THE TIED CARD OF 'gatepostlaw.UrlTexts'. -/
def urlTextsCard : Claim7 := { stood := { row := urlTextsRow, standIns := [], harness := (true, "26124ca958b7fbaf642c7c4e1b0866ce17a94df2f7eddf3611d88b7b78ac163f"), looks := true }, kinds := [], alts := [], laidByText := true, laidKinds := [.data, .data, .data], laidTests := true, laidLooks := .later }
def UrlTextsCardSaid : Prop := Claim7.holds Tryd.pinned (.plain (OpenSpec.ofChange urlTextsSpec)) urlTextsCard

/-- THE TIED CARD OF 'gatepostlaw.CodingHex'. -/
def codingHexCard : Claim7 := { stood := { row := codingHexRow, standIns := [], harness := (true, "26124ca958b7fbaf642c7c4e1b0866ce17a94df2f7eddf3611d88b7b78ac163f"), looks := true }, kinds := [], alts := [], laidByText := true, laidKinds := [.data, .data, .data], laidTests := true, laidLooks := .later }
def CodingHexCardSaid : Prop := Claim7.holds Tryd.pinned (.plain (OpenSpec.ofChange codingHexSpec)) codingHexCard

/-- THE TIED CARD OF 'gatepostlaw.UrlPrints'. -/
def urlPrintsCard : Claim7 := { stood := { row := urlPrintsRow, standIns := [], harness := (true, "26124ca958b7fbaf642c7c4e1b0866ce17a94df2f7eddf3611d88b7b78ac163f"), looks := true }, kinds := [], alts := [], laidByText := true, laidKinds := [.data, .data, .data], laidTests := true, laidLooks := .later }
def UrlPrintsCardSaid : Prop := Claim7.holds Tryd.pinned (.plain (OpenSpec.ofChange urlPrintsSpec)) urlPrintsCard

/-- THE TIED CARD OF 'gatepostlaw.TokenGoes'. -/
def tokenGoesCard : Claim7 := { stood := { row := tokenGoesRow, standIns := [], harness := (true, "26124ca958b7fbaf642c7c4e1b0866ce17a94df2f7eddf3611d88b7b78ac163f"), looks := true }, kinds := [], alts := [], laidByText := true, laidKinds := [.data, .pinned], laidTests := true, laidLooks := .later }
def TokenGoesCardSaid : Prop := Claim7.holds Tryd.pinned (.plain (OpenSpec.ofChange tokenGoesSpec)) tokenGoesCard

/-- THE TIED CARD OF 'gatepostlaw.AskPrints'. -/
def askPrintsCard : Claim7 := { stood := { row := askPrintsRow, standIns := [], harness := (true, "26124ca958b7fbaf642c7c4e1b0866ce17a94df2f7eddf3611d88b7b78ac163f"), looks := true }, kinds := [], alts := [], laidByText := true, laidKinds := [.handle], laidTests := true, laidLooks := .later }
def AskPrintsCardSaid : Prop := Claim7.holds Tryd.pinned (.plain (OpenSpec.ofChange askPrintsSpec)) askPrintsCard

/-- THE TIED CARD OF 'gatepostlaw.CorsMays'. -/
def corsMaysCard : Claim7 := { stood := { row := corsMaysRow, standIns := [], harness := (true, "26124ca958b7fbaf642c7c4e1b0866ce17a94df2f7eddf3611d88b7b78ac163f"), looks := true }, kinds := [], alts := [], laidByText := true, laidKinds := [.data, .data, .data], laidTests := true, laidLooks := .later }
def CorsMaysCardSaid : Prop := Claim7.holds Tryd.pinned (.plain (OpenSpec.ofChange corsMaysSpec)) corsMaysCard

/-- THE TIED CARD OF 'gatepostlaw.FetchMethods'. -/
def fetchMethodsCard : Claim7 := { stood := { row := fetchMethodsRow, standIns := [], harness := (true, "26124ca958b7fbaf642c7c4e1b0866ce17a94df2f7eddf3611d88b7b78ac163f"), looks := true }, kinds := [], alts := [], laidByText := true, laidKinds := [.data, .pinned, .pinned], laidTests := true, laidLooks := .later }
def FetchMethodsCardSaid : Prop := Claim7.holds Tryd.pinned (.plain (OpenSpec.ofChange fetchMethodsSpec)) fetchMethodsCard

/-- THE TIED CARD OF 'gatepostlaw.UrlCleans'. -/
def urlCleansCard : Claim7 := { stood := { row := urlCleansRow, standIns := [], harness := (true, "26124ca958b7fbaf642c7c4e1b0866ce17a94df2f7eddf3611d88b7b78ac163f"), looks := true }, kinds := [], alts := [], laidByText := true, laidKinds := [.data, .pinned], laidTests := true, laidLooks := .later }
def UrlCleansCardSaid : Prop := Claim7.holds Tryd.pinned (.plain (OpenSpec.ofChange urlCleansSpec)) urlCleansCard

/-- THE TIED CARD OF 'gatepostlaw.ProofCounts'. -/
def proofCountsCard : Claim7 := { stood := { row := proofCountsRow, standIns := [], harness := (true, "26124ca958b7fbaf642c7c4e1b0866ce17a94df2f7eddf3611d88b7b78ac163f"), looks := true }, kinds := [], alts := [], laidByText := true, laidKinds := [.data, .data, .data], laidTests := true, laidLooks := .later }
def ProofCountsCardSaid : Prop := Claim7.holds Tryd.pinned (.plain (OpenSpec.ofChange proofCountsSpec)) proofCountsCard

/-- THE TIED CARD OF 'gatepostlaw.CorsAges'. -/
def corsAgesCard : Claim7 := { stood := { row := corsAgesRow, standIns := [], harness := (true, "26124ca958b7fbaf642c7c4e1b0866ce17a94df2f7eddf3611d88b7b78ac163f"), looks := true }, kinds := [], alts := [], laidByText := true, laidKinds := [.data, .pinned], laidTests := true, laidLooks := .later }
def CorsAgesCardSaid : Prop := Claim7.holds Tryd.pinned (.plain (OpenSpec.ofChange corsAgesSpec)) corsAgesCard

/-- THE SECOND FORM's CARD OF 'gatepostlaw.TokenQuotes'. -/
def tokenQuotesUptoCard : Claim7 := { stood := { row := tokenQuotesUptoRow, standIns := [], harness := (true, "26124ca958b7fbaf642c7c4e1b0866ce17a94df2f7eddf3611d88b7b78ac163f"), looks := true }, kinds := [], alts := [], laidByText := true, laidKinds := [.handle], laidTests := true, laidLooks := .later }
def TokenQuotesUptoCardSaid : Prop := Claim7.holds Tryd.pinned (.plain (OpenSpec.upto tokenQuotesSpec)) tokenQuotesUptoCard

/-- THE SECOND FORM's CARD OF 'gatepostlaw.TokenValues'. -/
def tokenValuesUptoCard : Claim7 := { stood := { row := tokenValuesUptoRow, standIns := [], harness := (true, "26124ca958b7fbaf642c7c4e1b0866ce17a94df2f7eddf3611d88b7b78ac163f"), looks := true }, kinds := [], alts := [], laidByText := true, laidKinds := [.handle], laidTests := true, laidLooks := .later }
def TokenValuesUptoCardSaid : Prop := Claim7.holds Tryd.pinned (.plain (OpenSpec.upto tokenValuesSpec)) tokenValuesUptoCard

/-- THE SECOND FORM's CARD OF 'gatepostlaw.UrlTexts'. -/
def urlTextsUptoCard : Claim7 := { stood := { row := urlTextsUptoRow, standIns := [], harness := (true, "26124ca958b7fbaf642c7c4e1b0866ce17a94df2f7eddf3611d88b7b78ac163f"), looks := true }, kinds := [], alts := [], laidByText := true, laidKinds := [.data, .data, .data], laidTests := true, laidLooks := .later }
def UrlTextsUptoCardSaid : Prop := Claim7.holds Tryd.pinned (.plain (OpenSpec.upto urlTextsSpec)) urlTextsUptoCard

/-- THE SECOND FORM's CARD OF 'gatepostlaw.CodingHex'. -/
def codingHexUptoCard : Claim7 := { stood := { row := codingHexUptoRow, standIns := [], harness := (true, "26124ca958b7fbaf642c7c4e1b0866ce17a94df2f7eddf3611d88b7b78ac163f"), looks := true }, kinds := [], alts := [], laidByText := true, laidKinds := [.data, .data, .data], laidTests := true, laidLooks := .later }
def CodingHexUptoCardSaid : Prop := Claim7.holds Tryd.pinned (.plain (OpenSpec.upto codingHexSpec)) codingHexUptoCard

/-- THE SECOND FORM's CARD OF 'gatepostlaw.UrlPrints'. -/
def urlPrintsUptoCard : Claim7 := { stood := { row := urlPrintsUptoRow, standIns := [], harness := (true, "26124ca958b7fbaf642c7c4e1b0866ce17a94df2f7eddf3611d88b7b78ac163f"), looks := true }, kinds := [], alts := [], laidByText := true, laidKinds := [.data, .data, .data], laidTests := true, laidLooks := .later }
def UrlPrintsUptoCardSaid : Prop := Claim7.holds Tryd.pinned (.plain (OpenSpec.upto urlPrintsSpec)) urlPrintsUptoCard

/-- THE SECOND FORM's CARD OF 'gatepostlaw.TokenGoes'. -/
def tokenGoesUptoCard : Claim7 := { stood := { row := tokenGoesUptoRow, standIns := [], harness := (true, "26124ca958b7fbaf642c7c4e1b0866ce17a94df2f7eddf3611d88b7b78ac163f"), looks := true }, kinds := [], alts := [], laidByText := true, laidKinds := [.data, .pinned], laidTests := true, laidLooks := .later }
def TokenGoesUptoCardSaid : Prop := Claim7.holds Tryd.pinned (.plain (OpenSpec.upto tokenGoesSpec)) tokenGoesUptoCard

/-- THE SECOND FORM's CARD OF 'gatepostlaw.AskPrints'. -/
def askPrintsUptoCard : Claim7 := { stood := { row := askPrintsUptoRow, standIns := [], harness := (true, "26124ca958b7fbaf642c7c4e1b0866ce17a94df2f7eddf3611d88b7b78ac163f"), looks := true }, kinds := [], alts := [], laidByText := true, laidKinds := [.handle], laidTests := true, laidLooks := .later }
def AskPrintsUptoCardSaid : Prop := Claim7.holds Tryd.pinned (.plain (OpenSpec.upto askPrintsSpec)) askPrintsUptoCard

/-- THE SECOND FORM's CARD OF 'gatepostlaw.CorsMays'. -/
def corsMaysUptoCard : Claim7 := { stood := { row := corsMaysUptoRow, standIns := [], harness := (true, "26124ca958b7fbaf642c7c4e1b0866ce17a94df2f7eddf3611d88b7b78ac163f"), looks := true }, kinds := [], alts := [], laidByText := true, laidKinds := [.data, .data, .data], laidTests := true, laidLooks := .later }
def CorsMaysUptoCardSaid : Prop := Claim7.holds Tryd.pinned (.plain (OpenSpec.upto corsMaysSpec)) corsMaysUptoCard

/-- THE SECOND FORM's CARD OF 'gatepostlaw.FetchMethods'. -/
def fetchMethodsUptoCard : Claim7 := { stood := { row := fetchMethodsUptoRow, standIns := [], harness := (true, "26124ca958b7fbaf642c7c4e1b0866ce17a94df2f7eddf3611d88b7b78ac163f"), looks := true }, kinds := [], alts := [], laidByText := true, laidKinds := [.data, .pinned, .pinned], laidTests := true, laidLooks := .later }
def FetchMethodsUptoCardSaid : Prop := Claim7.holds Tryd.pinned (.plain (OpenSpec.upto fetchMethodsSpec)) fetchMethodsUptoCard

/-- THE SECOND FORM's CARD OF 'gatepostlaw.UrlCleans'. -/
def urlCleansUptoCard : Claim7 := { stood := { row := urlCleansUptoRow, standIns := [], harness := (true, "26124ca958b7fbaf642c7c4e1b0866ce17a94df2f7eddf3611d88b7b78ac163f"), looks := true }, kinds := [], alts := [], laidByText := true, laidKinds := [.data, .pinned], laidTests := true, laidLooks := .later }
def UrlCleansUptoCardSaid : Prop := Claim7.holds Tryd.pinned (.plain (OpenSpec.upto urlCleansSpec)) urlCleansUptoCard

/-- THE SECOND FORM's CARD OF 'gatepostlaw.ProofCounts'. -/
def proofCountsUptoCard : Claim7 := { stood := { row := proofCountsUptoRow, standIns := [], harness := (true, "26124ca958b7fbaf642c7c4e1b0866ce17a94df2f7eddf3611d88b7b78ac163f"), looks := true }, kinds := [], alts := [], laidByText := true, laidKinds := [.data, .data, .data], laidTests := true, laidLooks := .later }
def ProofCountsUptoCardSaid : Prop := Claim7.holds Tryd.pinned (.plain (OpenSpec.upto proofCountsSpec)) proofCountsUptoCard

/-- THE SECOND FORM's CARD OF 'gatepostlaw.CorsAges'. -/
def corsAgesUptoCard : Claim7 := { stood := { row := corsAgesUptoRow, standIns := [], harness := (true, "26124ca958b7fbaf642c7c4e1b0866ce17a94df2f7eddf3611d88b7b78ac163f"), looks := true }, kinds := [], alts := [], laidByText := true, laidKinds := [.data, .pinned], laidTests := true, laidLooks := .later }
def CorsAgesUptoCardSaid : Prop := Claim7.holds Tryd.pinned (.plain (OpenSpec.upto corsAgesSpec)) corsAgesUptoCard
end Rows
end Go.Proofs.YtnmeifobikemlaaDoor
