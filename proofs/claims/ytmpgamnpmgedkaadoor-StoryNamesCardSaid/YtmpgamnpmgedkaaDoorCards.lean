/-
  DERIVED. GIVEN WITH THE SEED: THE CARDS: each row of YtmpgamnpmgedkaaDoorRows.lean that lists a variable, with what it lists TIED to the program's text (the seventh form; the later family's looks); each row that meets fmt, with fmt's text TOLD by the authors' own Lean function (tested against real Go, not proved from fmt's source: count such statements apart). THE CARD IS WHAT COUNTS. Prove the row's statement (the work); the ties are given (YtmpgamnpmgedkaaDoorTie.lean); close each card by the builder's one call (the guide's Derived/Test/ToyasCard.lean, 'card_holds'). Laid BY PROGRAM, IN A SANDBOX (cutbox-door.mjs). By AI agents, Wed Nov 11 2026. No macro, syntax, notation, axiom, sorry.
-/
import Derived.Test.YtmpgamnpmgedkaaDoorRows
import GoSem.ClaimSeven
namespace Go.Proofs.YtmpgamnpmgedkaaDoor
namespace Rows

/-- THE TIED CARD OF 'gatepostlaw.CodingBase'. -/
def codingBaseCard : Claim7 := { stood := { row := codingBaseRow, standIns := [], harness := (true, "cd6ce2be2cbe4fce86b50fcbeba4b0f249e2452e4d0e5fb7915d483f30dd52eb"), looks := true }, kinds := [], alts := [], laidByText := true, laidKinds := [.data, .data, .data, .sentinel, .sentinel], laidTests := true, laidLooks := .later }
def CodingBaseCardSaid : Prop := Claim7.holds Tryd.pinned (.plain (OpenSpec.ofChange codingBaseSpec)) codingBaseCard

/-- THE TIED CARD OF 'gatepostlaw.SumMd5'. -/
def sumMd5Card : Claim7 := { stood := { row := sumMd5Row, standIns := [], harness := (true, "cd6ce2be2cbe4fce86b50fcbeba4b0f249e2452e4d0e5fb7915d483f30dd52eb"), looks := true }, kinds := [], alts := [], laidByText := true, laidKinds := [.data, .data, .data, .data, .data], laidTests := true, laidLooks := .later }
def SumMd5CardSaid : Prop := Claim7.holds Tryd.pinned (.plain (OpenSpec.ofChange sumMd5Spec)) sumMd5Card

/-- THE TIED CARD OF 'gatepostlaw.SumSha'. -/
def sumShaCard : Claim7 := { stood := { row := sumShaRow, standIns := [], harness := (true, "cd6ce2be2cbe4fce86b50fcbeba4b0f249e2452e4d0e5fb7915d483f30dd52eb"), looks := true }, kinds := [], alts := [], laidByText := true, laidKinds := [.data, .data, .data, .data, .data], laidTests := true, laidLooks := .later }
def SumShaCardSaid : Prop := Claim7.holds Tryd.pinned (.plain (OpenSpec.ofChange sumShaSpec)) sumShaCard

/-- THE TIED CARD OF 'gatepostlaw.FetchPlains'. -/
def fetchPlainsCard : Claim7 := { stood := { row := fetchPlainsRow, standIns := [], harness := (true, "cd6ce2be2cbe4fce86b50fcbeba4b0f249e2452e4d0e5fb7915d483f30dd52eb"), looks := true }, kinds := [], alts := [], laidByText := true, laidKinds := [.data, .pinned], laidTests := true, laidLooks := .later }
def FetchPlainsCardSaid : Prop := Claim7.holds Tryd.pinned (.plain (OpenSpec.ofChange fetchPlainsSpec)) fetchPlainsCard

/-- THE TIED CARD OF 'gatepostlaw.ProofResponses'. -/
def proofResponsesCard : Claim7 := { stood := { row := proofResponsesRow, standIns := [], harness := (true, "cd6ce2be2cbe4fce86b50fcbeba4b0f249e2452e4d0e5fb7915d483f30dd52eb"), looks := true }, kinds := [], alts := [], laidByText := true, laidKinds := [.data, .data, .data, .data, .data, .data, .data], laidTests := true, laidLooks := .later }
def ProofResponsesCardSaid : Prop := Claim7.holds Tryd.pinned (.plain (OpenSpec.ofChange proofResponsesSpec)) proofResponsesCard

/-- THE TIED CARD OF 'gatepostlaw.AskParses'. -/
def askParsesCard : Claim7 := { stood := { row := askParsesRow, standIns := [], harness := (true, "cd6ce2be2cbe4fce86b50fcbeba4b0f249e2452e4d0e5fb7915d483f30dd52eb"), looks := true }, kinds := [], alts := [], laidByText := true, laidKinds := [.data, .handle, .pinned], laidTests := true, laidLooks := .later }
def AskParsesCardSaid : Prop := Claim7.holds Tryd.pinned (.plain (OpenSpec.ofChange askParsesSpec)) askParsesCard

/-- THE TIED CARD OF 'gatepostlaw.StoryNames'. -/
def storyNamesCard : Claim7 := { stood := { row := storyNamesRow, standIns := [], harness := (true, "cd6ce2be2cbe4fce86b50fcbeba4b0f249e2452e4d0e5fb7915d483f30dd52eb"), looks := true }, kinds := [], alts := [], laidByText := true, laidKinds := [.data, .data, .data, .data, .listed, .data, .data, .pinned, .pinned, .pinned, .pinned, .pinned, .pinned], laidTests := true, laidLooks := .later }
def StoryNamesCardSaid : Prop := Claim7.holds Tryd.pinned (.plain (OpenSpec.ofChange storyNamesSpec)) storyNamesCard

/-- THE TIED CARD OF 'gatepostlaw.TokenLists'. -/
def tokenListsCard : Claim7 := { stood := { row := tokenListsRow, standIns := [], harness := (true, "cd6ce2be2cbe4fce86b50fcbeba4b0f249e2452e4d0e5fb7915d483f30dd52eb"), looks := true }, kinds := [], alts := [], laidByText := true, laidKinds := [.data, .handle, .pinned], laidTests := true, laidLooks := .later }
def TokenListsCardSaid : Prop := Claim7.holds Tryd.pinned (.plain (OpenSpec.ofChange tokenListsSpec)) tokenListsCard

/-- THE TIED CARD OF 'gatepostlaw.CorsFields'. -/
def corsFieldsCard : Claim7 := { stood := { row := corsFieldsRow, standIns := [], harness := (true, "cd6ce2be2cbe4fce86b50fcbeba4b0f249e2452e4d0e5fb7915d483f30dd52eb"), looks := true }, kinds := [], alts := [], laidByText := true, laidKinds := [.data, .handle, .pinned], laidTests := true, laidLooks := .later }
def CorsFieldsCardSaid : Prop := Claim7.holds Tryd.pinned (.plain (OpenSpec.ofChange corsFieldsSpec)) corsFieldsCard

/-- THE TIED CARD OF 'gatepostlaw.WorldCells'. -/
def worldCellsCard : Claim7 := { stood := { row := worldCellsRow, standIns := [], harness := (true, "cd6ce2be2cbe4fce86b50fcbeba4b0f249e2452e4d0e5fb7915d483f30dd52eb"), looks := true }, kinds := [], alts := [], laidByText := true, laidKinds := [.data, .pinned], laidTests := true, laidLooks := .later }
def WorldCellsCardSaid : Prop := Claim7.holds Tryd.pinned (.plain (OpenSpec.ofChange worldCellsSpec)) worldCellsCard

/-- THE TIED CARD OF 'gatepostlaw.UrlRights'. -/
def urlRightsCard : Claim7 := { stood := { row := urlRightsRow, standIns := [], harness := (true, "cd6ce2be2cbe4fce86b50fcbeba4b0f249e2452e4d0e5fb7915d483f30dd52eb"), looks := true }, kinds := [], alts := [], laidByText := true, laidKinds := [.data, .pinned], laidTests := true, laidLooks := .later }
def UrlRightsCardSaid : Prop := Claim7.holds Tryd.pinned (.plain (OpenSpec.ofChange urlRightsSpec)) urlRightsCard

/-- THE TIED CARD OF 'gatepostlaw.BankKeeps'. -/
def bankKeepsCard : Claim7 := { stood := { row := bankKeepsRow, standIns := [], harness := (true, "cd6ce2be2cbe4fce86b50fcbeba4b0f249e2452e4d0e5fb7915d483f30dd52eb"), looks := true }, kinds := [], alts := [], laidByText := true, laidKinds := [.handle], laidTests := true, laidLooks := .later }
def BankKeepsCardSaid : Prop := Claim7.holds Tryd.pinned (.plain (OpenSpec.ofChange bankKeepsSpec)) bankKeepsCard

/-- THE TIED CARD OF 'gatepostlaw.AskKnows'. -/
def askKnowsCard : Claim7 := { stood := { row := askKnowsRow, standIns := [], harness := (true, "cd6ce2be2cbe4fce86b50fcbeba4b0f249e2452e4d0e5fb7915d483f30dd52eb"), looks := true }, kinds := [], alts := [], laidByText := true, laidKinds := [.data, .pinned], laidTests := true, laidLooks := .later }
def AskKnowsCardSaid : Prop := Claim7.holds Tryd.pinned (.plain (OpenSpec.ofChange askKnowsSpec)) askKnowsCard

/-- THE TIED CARD OF 'gatepostlaw.AskBests'. -/
def askBestsCard : Claim7 := { stood := { row := askBestsRow, standIns := [], harness := (true, "cd6ce2be2cbe4fce86b50fcbeba4b0f249e2452e4d0e5fb7915d483f30dd52eb"), looks := true }, kinds := [], alts := [], laidByText := true, laidKinds := [.data, .pinned], laidTests := true, laidLooks := .later }
def AskBestsCardSaid : Prop := Claim7.holds Tryd.pinned (.plain (OpenSpec.ofChange askBestsSpec)) askBestsCard

/-- THE SECOND FORM's CARD OF 'gatepostlaw.CodingBase'. -/
def codingBaseUptoCard : Claim7 := { stood := { row := codingBaseUptoRow, standIns := [], harness := (true, "cd6ce2be2cbe4fce86b50fcbeba4b0f249e2452e4d0e5fb7915d483f30dd52eb"), looks := true }, kinds := [], alts := [], laidByText := true, laidKinds := [.data, .data, .data, .sentinel, .sentinel], laidTests := true, laidLooks := .later }
def CodingBaseUptoCardSaid : Prop := Claim7.holds Tryd.pinned (.plain (OpenSpec.upto codingBaseSpec)) codingBaseUptoCard

/-- THE SECOND FORM's CARD OF 'gatepostlaw.SumMd5'. -/
def sumMd5UptoCard : Claim7 := { stood := { row := sumMd5UptoRow, standIns := [], harness := (true, "cd6ce2be2cbe4fce86b50fcbeba4b0f249e2452e4d0e5fb7915d483f30dd52eb"), looks := true }, kinds := [], alts := [], laidByText := true, laidKinds := [.data, .data, .data, .data, .data], laidTests := true, laidLooks := .later }
def SumMd5UptoCardSaid : Prop := Claim7.holds Tryd.pinned (.plain (OpenSpec.upto sumMd5Spec)) sumMd5UptoCard

/-- THE SECOND FORM's CARD OF 'gatepostlaw.SumSha'. -/
def sumShaUptoCard : Claim7 := { stood := { row := sumShaUptoRow, standIns := [], harness := (true, "cd6ce2be2cbe4fce86b50fcbeba4b0f249e2452e4d0e5fb7915d483f30dd52eb"), looks := true }, kinds := [], alts := [], laidByText := true, laidKinds := [.data, .data, .data, .data, .data], laidTests := true, laidLooks := .later }
def SumShaUptoCardSaid : Prop := Claim7.holds Tryd.pinned (.plain (OpenSpec.upto sumShaSpec)) sumShaUptoCard

/-- THE SECOND FORM's CARD OF 'gatepostlaw.FetchPlains'. -/
def fetchPlainsUptoCard : Claim7 := { stood := { row := fetchPlainsUptoRow, standIns := [], harness := (true, "cd6ce2be2cbe4fce86b50fcbeba4b0f249e2452e4d0e5fb7915d483f30dd52eb"), looks := true }, kinds := [], alts := [], laidByText := true, laidKinds := [.data, .pinned], laidTests := true, laidLooks := .later }
def FetchPlainsUptoCardSaid : Prop := Claim7.holds Tryd.pinned (.plain (OpenSpec.upto fetchPlainsSpec)) fetchPlainsUptoCard

/-- THE SECOND FORM's CARD OF 'gatepostlaw.ProofResponses'. -/
def proofResponsesUptoCard : Claim7 := { stood := { row := proofResponsesUptoRow, standIns := [], harness := (true, "cd6ce2be2cbe4fce86b50fcbeba4b0f249e2452e4d0e5fb7915d483f30dd52eb"), looks := true }, kinds := [], alts := [], laidByText := true, laidKinds := [.data, .data, .data, .data, .data, .data, .data], laidTests := true, laidLooks := .later }
def ProofResponsesUptoCardSaid : Prop := Claim7.holds Tryd.pinned (.plain (OpenSpec.upto proofResponsesSpec)) proofResponsesUptoCard

/-- THE SECOND FORM's CARD OF 'gatepostlaw.AskParses'. -/
def askParsesUptoCard : Claim7 := { stood := { row := askParsesUptoRow, standIns := [], harness := (true, "cd6ce2be2cbe4fce86b50fcbeba4b0f249e2452e4d0e5fb7915d483f30dd52eb"), looks := true }, kinds := [], alts := [], laidByText := true, laidKinds := [.data, .handle, .pinned], laidTests := true, laidLooks := .later }
def AskParsesUptoCardSaid : Prop := Claim7.holds Tryd.pinned (.plain (OpenSpec.upto askParsesSpec)) askParsesUptoCard

/-- THE SECOND FORM's CARD OF 'gatepostlaw.StoryNames'. -/
def storyNamesUptoCard : Claim7 := { stood := { row := storyNamesUptoRow, standIns := [], harness := (true, "cd6ce2be2cbe4fce86b50fcbeba4b0f249e2452e4d0e5fb7915d483f30dd52eb"), looks := true }, kinds := [], alts := [], laidByText := true, laidKinds := [.data, .data, .data, .data, .listed, .data, .data, .pinned, .pinned, .pinned, .pinned, .pinned, .pinned], laidTests := true, laidLooks := .later }
def StoryNamesUptoCardSaid : Prop := Claim7.holds Tryd.pinned (.plain (OpenSpec.upto storyNamesSpec)) storyNamesUptoCard

/-- THE SECOND FORM's CARD OF 'gatepostlaw.TokenLists'. -/
def tokenListsUptoCard : Claim7 := { stood := { row := tokenListsUptoRow, standIns := [], harness := (true, "cd6ce2be2cbe4fce86b50fcbeba4b0f249e2452e4d0e5fb7915d483f30dd52eb"), looks := true }, kinds := [], alts := [], laidByText := true, laidKinds := [.data, .handle, .pinned], laidTests := true, laidLooks := .later }
def TokenListsUptoCardSaid : Prop := Claim7.holds Tryd.pinned (.plain (OpenSpec.upto tokenListsSpec)) tokenListsUptoCard

/-- THE SECOND FORM's CARD OF 'gatepostlaw.CorsFields'. -/
def corsFieldsUptoCard : Claim7 := { stood := { row := corsFieldsUptoRow, standIns := [], harness := (true, "cd6ce2be2cbe4fce86b50fcbeba4b0f249e2452e4d0e5fb7915d483f30dd52eb"), looks := true }, kinds := [], alts := [], laidByText := true, laidKinds := [.data, .handle, .pinned], laidTests := true, laidLooks := .later }
def CorsFieldsUptoCardSaid : Prop := Claim7.holds Tryd.pinned (.plain (OpenSpec.upto corsFieldsSpec)) corsFieldsUptoCard

/-- THE SECOND FORM's CARD OF 'gatepostlaw.WorldCells'. -/
def worldCellsUptoCard : Claim7 := { stood := { row := worldCellsUptoRow, standIns := [], harness := (true, "cd6ce2be2cbe4fce86b50fcbeba4b0f249e2452e4d0e5fb7915d483f30dd52eb"), looks := true }, kinds := [], alts := [], laidByText := true, laidKinds := [.data, .pinned], laidTests := true, laidLooks := .later }
def WorldCellsUptoCardSaid : Prop := Claim7.holds Tryd.pinned (.plain (OpenSpec.upto worldCellsSpec)) worldCellsUptoCard

/-- THE SECOND FORM's CARD OF 'gatepostlaw.UrlRights'. -/
def urlRightsUptoCard : Claim7 := { stood := { row := urlRightsUptoRow, standIns := [], harness := (true, "cd6ce2be2cbe4fce86b50fcbeba4b0f249e2452e4d0e5fb7915d483f30dd52eb"), looks := true }, kinds := [], alts := [], laidByText := true, laidKinds := [.data, .pinned], laidTests := true, laidLooks := .later }
def UrlRightsUptoCardSaid : Prop := Claim7.holds Tryd.pinned (.plain (OpenSpec.upto urlRightsSpec)) urlRightsUptoCard

/-- THE SECOND FORM's CARD OF 'gatepostlaw.BankKeeps'. -/
def bankKeepsUptoCard : Claim7 := { stood := { row := bankKeepsUptoRow, standIns := [], harness := (true, "cd6ce2be2cbe4fce86b50fcbeba4b0f249e2452e4d0e5fb7915d483f30dd52eb"), looks := true }, kinds := [], alts := [], laidByText := true, laidKinds := [.handle], laidTests := true, laidLooks := .later }
def BankKeepsUptoCardSaid : Prop := Claim7.holds Tryd.pinned (.plain (OpenSpec.upto bankKeepsSpec)) bankKeepsUptoCard

/-- THE SECOND FORM's CARD OF 'gatepostlaw.AskKnows'. -/
def askKnowsUptoCard : Claim7 := { stood := { row := askKnowsUptoRow, standIns := [], harness := (true, "cd6ce2be2cbe4fce86b50fcbeba4b0f249e2452e4d0e5fb7915d483f30dd52eb"), looks := true }, kinds := [], alts := [], laidByText := true, laidKinds := [.data, .pinned], laidTests := true, laidLooks := .later }
def AskKnowsUptoCardSaid : Prop := Claim7.holds Tryd.pinned (.plain (OpenSpec.upto askKnowsSpec)) askKnowsUptoCard

/-- THE SECOND FORM's CARD OF 'gatepostlaw.AskBests'. -/
def askBestsUptoCard : Claim7 := { stood := { row := askBestsUptoRow, standIns := [], harness := (true, "cd6ce2be2cbe4fce86b50fcbeba4b0f249e2452e4d0e5fb7915d483f30dd52eb"), looks := true }, kinds := [], alts := [], laidByText := true, laidKinds := [.data, .pinned], laidTests := true, laidLooks := .later }
def AskBestsUptoCardSaid : Prop := Claim7.holds Tryd.pinned (.plain (OpenSpec.upto askBestsSpec)) askBestsUptoCard
end Rows
end Go.Proofs.YtmpgamnpmgedkaaDoor
