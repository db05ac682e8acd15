/-
  DERIVED. GIVEN WITH THE SEED: THE CARDS: each row of YtfkflgcifddnnaaDoorRows.lean that lists a variable, with what it lists TIED to the program's text (the seventh form; the later family's looks); each row that meets fmt, with fmt's text TOLD by the authors' own Lean function (tested against real Go, not proved from fmt's source: count such statements apart). THE CARD IS WHAT COUNTS. Prove the row's statement (the work); the ties are given (YtfkflgcifddnnaaDoorTie.lean); close each card by the builder's one call (the guide's Derived/Test/ToyasCard.lean, 'card_holds'). Laid BY PROGRAM, IN A SANDBOX (cutbox-door.mjs). By AI agents, Wed Nov 11 2026. No macro, syntax, notation, axiom, sorry.
-/
import Derived.Test.YtfkflgcifddnnaaDoorRows
import GoSem.ClaimSeven
namespace Go.Proofs.YtfkflgcifddnnaaDoor
namespace Rows

/-- THE TIED CARD OF 'gatepostlaw.SumMd5'. -/
def sumMd5Card : Claim7 := { stood := { row := sumMd5Row, standIns := [], harness := (true, "fa311fb88ae938e768febdf25de9acad305bb2a49d857ff844998f19543bee40"), looks := true }, kinds := [], alts := [], laidByText := true, laidKinds := [.data, .data, .data, .data, .data], laidTests := true, laidLooks := .later }
def SumMd5CardSaid : Prop := Claim7.holds Tryd.pinned (.plain (OpenSpec.ofChange sumMd5Spec)) sumMd5Card

/-- THE TIED CARD OF 'gatepostlaw.SumSha'. -/
def sumShaCard : Claim7 := { stood := { row := sumShaRow, standIns := [], harness := (true, "fa311fb88ae938e768febdf25de9acad305bb2a49d857ff844998f19543bee40"), looks := true }, kinds := [], alts := [], laidByText := true, laidKinds := [.data, .data, .data, .data, .data], laidTests := true, laidLooks := .later }
def SumShaCardSaid : Prop := Claim7.holds Tryd.pinned (.plain (OpenSpec.ofChange sumShaSpec)) sumShaCard

/-- THE TIED CARD OF 'gatepostlaw.ProofResponses'. -/
def proofResponsesCard : Claim7 := { stood := { row := proofResponsesRow, standIns := [], harness := (true, "fa311fb88ae938e768febdf25de9acad305bb2a49d857ff844998f19543bee40"), looks := true }, kinds := [], alts := [], laidByText := true, laidKinds := [.data, .data, .data, .data, .data, .data, .data], laidTests := true, laidLooks := .later }
def ProofResponsesCardSaid : Prop := Claim7.holds Tryd.pinned (.plain (OpenSpec.ofChange proofResponsesSpec)) proofResponsesCard

/-- THE TIED CARD OF 'gatepostlaw.AskParses'. -/
def askParsesCard : Claim7 := { stood := { row := askParsesRow, standIns := [], harness := (true, "fa311fb88ae938e768febdf25de9acad305bb2a49d857ff844998f19543bee40"), looks := true }, kinds := [], alts := [], laidByText := true, laidKinds := [.data, .handle, .pinned], laidTests := true, laidLooks := .later }
def AskParsesCardSaid : Prop := Claim7.holds Tryd.pinned (.plain (OpenSpec.ofChange askParsesSpec)) askParsesCard

/-- THE TIED CARD OF 'gatepostlaw.AskKnows'. -/
def askKnowsCard : Claim7 := { stood := { row := askKnowsRow, standIns := [], harness := (true, "fa311fb88ae938e768febdf25de9acad305bb2a49d857ff844998f19543bee40"), looks := true }, kinds := [], alts := [], laidByText := true, laidKinds := [.data, .pinned], laidTests := true, laidLooks := .later }
def AskKnowsCardSaid : Prop := Claim7.holds Tryd.pinned (.plain (OpenSpec.ofChange askKnowsSpec)) askKnowsCard

/-- THE TIED CARD OF 'gatepostlaw.AskBests'. -/
def askBestsCard : Claim7 := { stood := { row := askBestsRow, standIns := [], harness := (true, "fa311fb88ae938e768febdf25de9acad305bb2a49d857ff844998f19543bee40"), looks := true }, kinds := [], alts := [], laidByText := true, laidKinds := [.data, .pinned], laidTests := true, laidLooks := .later }
def AskBestsCardSaid : Prop := Claim7.holds Tryd.pinned (.plain (OpenSpec.ofChange askBestsSpec)) askBestsCard

/-- THE TIED CARD OF 'gatepostlaw.StoryLines'. -/
def storyLinesCard : Claim7 := { stood := { row := storyLinesRow, standIns := [], harness := (true, "fa311fb88ae938e768febdf25de9acad305bb2a49d857ff844998f19543bee40"), looks := true }, kinds := [], alts := [], laidByText := true, laidKinds := [.data, .data, .data, .data, .listed, .data, .data, .pinned, .pinned, .pinned, .pinned, .pinned, .pinned], laidTests := true, laidLooks := .later }
def StoryLinesCardSaid : Prop := Claim7.holds Tryd.pinned (.plain (OpenSpec.ofChange storyLinesSpec)) storyLinesCard

/-- THE TIED CARD OF 'gatepostlaw.StoryPrints'. -/
def storyPrintsCard : Claim7 := { stood := { row := storyPrintsRow, standIns := [], harness := (true, "fa311fb88ae938e768febdf25de9acad305bb2a49d857ff844998f19543bee40"), looks := true }, kinds := [], alts := [], laidByText := true, laidKinds := [.data, .data, .data, .data, .listed, .data, .data, .pinned, .pinned, .pinned, .pinned, .pinned, .pinned], laidTests := true, laidLooks := .later }
def StoryPrintsCardSaid : Prop := Claim7.holds Tryd.pinned (.plain (OpenSpec.ofChange storyPrintsSpec)) storyPrintsCard

/-- THE TIED CARD OF 'gatepostlaw.BankKeeps'. -/
def bankKeepsCard : Claim7 := { stood := { row := bankKeepsRow, standIns := [], harness := (true, "fa311fb88ae938e768febdf25de9acad305bb2a49d857ff844998f19543bee40"), looks := true }, kinds := [], alts := [], laidByText := true, laidKinds := [.handle], laidTests := true, laidLooks := .later }
def BankKeepsCardSaid : Prop := Claim7.holds Tryd.pinned (.plain (OpenSpec.ofChange bankKeepsSpec)) bankKeepsCard

/-- THE TIED CARD OF 'gatepostlaw.ProofDigests'. -/
def proofDigestsCard : Claim7 := { stood := { row := proofDigestsRow, standIns := [], harness := (true, "fa311fb88ae938e768febdf25de9acad305bb2a49d857ff844998f19543bee40"), looks := true }, kinds := [], alts := [], laidByText := true, laidKinds := [.data, .data, .data, .handle, .data, .data, .data, .data], laidTests := true, laidLooks := .later }
def ProofDigestsCardSaid : Prop := Claim7.holds Tryd.pinned (.plain (OpenSpec.ofChange proofDigestsSpec)) proofDigestsCard

/-- THE SECOND FORM's CARD OF 'gatepostlaw.SumMd5'. -/
def sumMd5UptoCard : Claim7 := { stood := { row := sumMd5UptoRow, standIns := [], harness := (true, "fa311fb88ae938e768febdf25de9acad305bb2a49d857ff844998f19543bee40"), looks := true }, kinds := [], alts := [], laidByText := true, laidKinds := [.data, .data, .data, .data, .data], laidTests := true, laidLooks := .later }
def SumMd5UptoCardSaid : Prop := Claim7.holds Tryd.pinned (.plain (OpenSpec.upto sumMd5Spec)) sumMd5UptoCard

/-- THE SECOND FORM's CARD OF 'gatepostlaw.SumSha'. -/
def sumShaUptoCard : Claim7 := { stood := { row := sumShaUptoRow, standIns := [], harness := (true, "fa311fb88ae938e768febdf25de9acad305bb2a49d857ff844998f19543bee40"), looks := true }, kinds := [], alts := [], laidByText := true, laidKinds := [.data, .data, .data, .data, .data], laidTests := true, laidLooks := .later }
def SumShaUptoCardSaid : Prop := Claim7.holds Tryd.pinned (.plain (OpenSpec.upto sumShaSpec)) sumShaUptoCard

/-- THE SECOND FORM's CARD OF 'gatepostlaw.ProofResponses'. -/
def proofResponsesUptoCard : Claim7 := { stood := { row := proofResponsesUptoRow, standIns := [], harness := (true, "fa311fb88ae938e768febdf25de9acad305bb2a49d857ff844998f19543bee40"), looks := true }, kinds := [], alts := [], laidByText := true, laidKinds := [.data, .data, .data, .data, .data, .data, .data], laidTests := true, laidLooks := .later }
def ProofResponsesUptoCardSaid : Prop := Claim7.holds Tryd.pinned (.plain (OpenSpec.upto proofResponsesSpec)) proofResponsesUptoCard

/-- THE SECOND FORM's CARD OF 'gatepostlaw.AskParses'. -/
def askParsesUptoCard : Claim7 := { stood := { row := askParsesUptoRow, standIns := [], harness := (true, "fa311fb88ae938e768febdf25de9acad305bb2a49d857ff844998f19543bee40"), looks := true }, kinds := [], alts := [], laidByText := true, laidKinds := [.data, .handle, .pinned], laidTests := true, laidLooks := .later }
def AskParsesUptoCardSaid : Prop := Claim7.holds Tryd.pinned (.plain (OpenSpec.upto askParsesSpec)) askParsesUptoCard

/-- THE SECOND FORM's CARD OF 'gatepostlaw.AskKnows'. -/
def askKnowsUptoCard : Claim7 := { stood := { row := askKnowsUptoRow, standIns := [], harness := (true, "fa311fb88ae938e768febdf25de9acad305bb2a49d857ff844998f19543bee40"), looks := true }, kinds := [], alts := [], laidByText := true, laidKinds := [.data, .pinned], laidTests := true, laidLooks := .later }
def AskKnowsUptoCardSaid : Prop := Claim7.holds Tryd.pinned (.plain (OpenSpec.upto askKnowsSpec)) askKnowsUptoCard

/-- THE SECOND FORM's CARD OF 'gatepostlaw.AskBests'. -/
def askBestsUptoCard : Claim7 := { stood := { row := askBestsUptoRow, standIns := [], harness := (true, "fa311fb88ae938e768febdf25de9acad305bb2a49d857ff844998f19543bee40"), looks := true }, kinds := [], alts := [], laidByText := true, laidKinds := [.data, .pinned], laidTests := true, laidLooks := .later }
def AskBestsUptoCardSaid : Prop := Claim7.holds Tryd.pinned (.plain (OpenSpec.upto askBestsSpec)) askBestsUptoCard

/-- THE SECOND FORM's CARD OF 'gatepostlaw.StoryLines'. -/
def storyLinesUptoCard : Claim7 := { stood := { row := storyLinesUptoRow, standIns := [], harness := (true, "fa311fb88ae938e768febdf25de9acad305bb2a49d857ff844998f19543bee40"), looks := true }, kinds := [], alts := [], laidByText := true, laidKinds := [.data, .data, .data, .data, .listed, .data, .data, .pinned, .pinned, .pinned, .pinned, .pinned, .pinned], laidTests := true, laidLooks := .later }
def StoryLinesUptoCardSaid : Prop := Claim7.holds Tryd.pinned (.plain (OpenSpec.upto storyLinesSpec)) storyLinesUptoCard

/-- THE SECOND FORM's CARD OF 'gatepostlaw.StoryPrints'. -/
def storyPrintsUptoCard : Claim7 := { stood := { row := storyPrintsUptoRow, standIns := [], harness := (true, "fa311fb88ae938e768febdf25de9acad305bb2a49d857ff844998f19543bee40"), looks := true }, kinds := [], alts := [], laidByText := true, laidKinds := [.data, .data, .data, .data, .listed, .data, .data, .pinned, .pinned, .pinned, .pinned, .pinned, .pinned], laidTests := true, laidLooks := .later }
def StoryPrintsUptoCardSaid : Prop := Claim7.holds Tryd.pinned (.plain (OpenSpec.upto storyPrintsSpec)) storyPrintsUptoCard

/-- THE SECOND FORM's CARD OF 'gatepostlaw.BankKeeps'. -/
def bankKeepsUptoCard : Claim7 := { stood := { row := bankKeepsUptoRow, standIns := [], harness := (true, "fa311fb88ae938e768febdf25de9acad305bb2a49d857ff844998f19543bee40"), looks := true }, kinds := [], alts := [], laidByText := true, laidKinds := [.handle], laidTests := true, laidLooks := .later }
def BankKeepsUptoCardSaid : Prop := Claim7.holds Tryd.pinned (.plain (OpenSpec.upto bankKeepsSpec)) bankKeepsUptoCard

/-- THE SECOND FORM's CARD OF 'gatepostlaw.ProofDigests'. -/
def proofDigestsUptoCard : Claim7 := { stood := { row := proofDigestsUptoRow, standIns := [], harness := (true, "fa311fb88ae938e768febdf25de9acad305bb2a49d857ff844998f19543bee40"), looks := true }, kinds := [], alts := [], laidByText := true, laidKinds := [.data, .data, .data, .handle, .data, .data, .data, .data], laidTests := true, laidLooks := .later }
def ProofDigestsUptoCardSaid : Prop := Claim7.holds Tryd.pinned (.plain (OpenSpec.upto proofDigestsSpec)) proofDigestsUptoCard
end Rows
end Go.Proofs.YtfkflgcifddnnaaDoor
