/-
  DERIVED. GIVEN WITH THE SEED: THE CARDS: each row of YtdlhihfjigcimaaDoorRows.lean that lists a variable, with what it lists TIED to the program's text (the seventh form; the later family's looks); each row that meets fmt, with fmt's text TOLD by the authors' own Lean function (tested against real Go, not proved from fmt's source: count such statements apart). THE CARD IS WHAT COUNTS. Prove the row's statement (the work); the ties are given (YtdlhihfjigcimaaDoorTie.lean); close each card by the builder's one call (the guide's Derived/Test/ToyasCard.lean, 'card_holds'). Laid BY PROGRAM, IN A SANDBOX (cutbox-door.mjs). By AI agents, Wed Nov 11 2026. No macro, syntax, notation, axiom, sorry.
-/
import Derived.Test.YtdlhihfjigcimaaDoorRows
import GoSem.ClaimSeven
namespace Go.Proofs.YtdlhihfjigcimaaDoor
namespace Rows

/-- THE TIED CARD OF 'gatepostlaw.AskBests'. -/
def askBestsCard : Claim7 := { stood := { row := askBestsRow, standIns := [], harness := (true, "b50143651d3822c7d636cbf025aab85837b12d75fe64b0d4c497dcbf7d1d6201"), looks := true }, kinds := [], alts := [], laidByText := true, laidKinds := [.data, .pinned], laidTests := true, laidLooks := .later }
def AskBestsCardSaid : Prop := Claim7.holds Tryd.pinned (.plain (OpenSpec.ofChange askBestsSpec)) askBestsCard

/-- THE TIED CARD OF 'gatepostlaw.AskKnows'. -/
def askKnowsCard : Claim7 := { stood := { row := askKnowsRow, standIns := [], harness := (true, "b50143651d3822c7d636cbf025aab85837b12d75fe64b0d4c497dcbf7d1d6201"), looks := true }, kinds := [], alts := [], laidByText := true, laidKinds := [.data, .pinned], laidTests := true, laidLooks := .later }
def AskKnowsCardSaid : Prop := Claim7.holds Tryd.pinned (.plain (OpenSpec.ofChange askKnowsSpec)) askKnowsCard

/-- THE TIED CARD OF 'gatepostlaw.CodingUnbase'. -/
def codingUnbaseCard : Claim7 := { stood := { row := codingUnbaseRow, standIns := [], harness := (true, "b50143651d3822c7d636cbf025aab85837b12d75fe64b0d4c497dcbf7d1d6201"), looks := true }, kinds := [], alts := [], laidByText := true, laidKinds := [.data, .data, .data, .data, .handle, .sentinel, .sentinel, .pinned], laidTests := true, laidLooks := .later }
def CodingUnbaseCardSaid : Prop := Claim7.holds Tryd.pinned (.plain (OpenSpec.ofChange codingUnbaseSpec)) codingUnbaseCard

/-- THE TIED CARD OF 'gatepostlaw.ProofBasics'. -/
def proofBasicsCard : Claim7 := { stood := { row := proofBasicsRow, standIns := [], harness := (true, "b50143651d3822c7d636cbf025aab85837b12d75fe64b0d4c497dcbf7d1d6201"), looks := true }, kinds := [], alts := [], laidByText := true, laidKinds := [.data, .data, .data, .handle, .sentinel, .sentinel], laidTests := true, laidLooks := .later }
def ProofBasicsCardSaid : Prop := Claim7.holds Tryd.pinned (.plain (OpenSpec.ofChange proofBasicsSpec)) proofBasicsCard

/-- THE TIED CARD OF 'gatepostlaw.ProofDigests'. -/
def proofDigestsCard : Claim7 := { stood := { row := proofDigestsRow, standIns := [], harness := (true, "b50143651d3822c7d636cbf025aab85837b12d75fe64b0d4c497dcbf7d1d6201"), looks := true }, kinds := [], alts := [], laidByText := true, laidKinds := [.data, .data, .data, .handle, .data, .data, .data, .data], laidTests := true, laidLooks := .later }
def ProofDigestsCardSaid : Prop := Claim7.holds Tryd.pinned (.plain (OpenSpec.ofChange proofDigestsSpec)) proofDigestsCard

/-- THE TIED CARD OF 'gatepostlaw.StoryLines'. -/
def storyLinesCard : Claim7 := { stood := { row := storyLinesRow, standIns := [], harness := (true, "b50143651d3822c7d636cbf025aab85837b12d75fe64b0d4c497dcbf7d1d6201"), looks := true }, kinds := [], alts := [], laidByText := true, laidKinds := [.data, .data, .data, .data, .listed, .data, .data, .pinned, .pinned, .pinned, .pinned, .pinned, .pinned], laidTests := true, laidLooks := .later }
def StoryLinesCardSaid : Prop := Claim7.holds Tryd.pinned (.plain (OpenSpec.ofChange storyLinesSpec)) storyLinesCard

/-- THE TIED CARD OF 'gatepostlaw.StoryPrints'. -/
def storyPrintsCard : Claim7 := { stood := { row := storyPrintsRow, standIns := [], harness := (true, "b50143651d3822c7d636cbf025aab85837b12d75fe64b0d4c497dcbf7d1d6201"), looks := true }, kinds := [], alts := [], laidByText := true, laidKinds := [.data, .data, .data, .data, .listed, .data, .data, .pinned, .pinned, .pinned, .pinned, .pinned, .pinned], laidTests := true, laidLooks := .later }
def StoryPrintsCardSaid : Prop := Claim7.holds Tryd.pinned (.plain (OpenSpec.ofChange storyPrintsSpec)) storyPrintsCard

/-- THE SECOND FORM's CARD OF 'gatepostlaw.AskBests'. -/
def askBestsUptoCard : Claim7 := { stood := { row := askBestsUptoRow, standIns := [], harness := (true, "b50143651d3822c7d636cbf025aab85837b12d75fe64b0d4c497dcbf7d1d6201"), looks := true }, kinds := [], alts := [], laidByText := true, laidKinds := [.data, .pinned], laidTests := true, laidLooks := .later }
def AskBestsUptoCardSaid : Prop := Claim7.holds Tryd.pinned (.plain (OpenSpec.upto askBestsSpec)) askBestsUptoCard

/-- THE SECOND FORM's CARD OF 'gatepostlaw.AskKnows'. -/
def askKnowsUptoCard : Claim7 := { stood := { row := askKnowsUptoRow, standIns := [], harness := (true, "b50143651d3822c7d636cbf025aab85837b12d75fe64b0d4c497dcbf7d1d6201"), looks := true }, kinds := [], alts := [], laidByText := true, laidKinds := [.data, .pinned], laidTests := true, laidLooks := .later }
def AskKnowsUptoCardSaid : Prop := Claim7.holds Tryd.pinned (.plain (OpenSpec.upto askKnowsSpec)) askKnowsUptoCard

/-- THE SECOND FORM's CARD OF 'gatepostlaw.CodingUnbase'. -/
def codingUnbaseUptoCard : Claim7 := { stood := { row := codingUnbaseUptoRow, standIns := [], harness := (true, "b50143651d3822c7d636cbf025aab85837b12d75fe64b0d4c497dcbf7d1d6201"), looks := true }, kinds := [], alts := [], laidByText := true, laidKinds := [.data, .data, .data, .data, .handle, .sentinel, .sentinel, .pinned], laidTests := true, laidLooks := .later }
def CodingUnbaseUptoCardSaid : Prop := Claim7.holds Tryd.pinned (.plain (OpenSpec.upto codingUnbaseSpec)) codingUnbaseUptoCard

/-- THE SECOND FORM's CARD OF 'gatepostlaw.ProofBasics'. -/
def proofBasicsUptoCard : Claim7 := { stood := { row := proofBasicsUptoRow, standIns := [], harness := (true, "b50143651d3822c7d636cbf025aab85837b12d75fe64b0d4c497dcbf7d1d6201"), looks := true }, kinds := [], alts := [], laidByText := true, laidKinds := [.data, .data, .data, .handle, .sentinel, .sentinel], laidTests := true, laidLooks := .later }
def ProofBasicsUptoCardSaid : Prop := Claim7.holds Tryd.pinned (.plain (OpenSpec.upto proofBasicsSpec)) proofBasicsUptoCard

/-- THE SECOND FORM's CARD OF 'gatepostlaw.ProofDigests'. -/
def proofDigestsUptoCard : Claim7 := { stood := { row := proofDigestsUptoRow, standIns := [], harness := (true, "b50143651d3822c7d636cbf025aab85837b12d75fe64b0d4c497dcbf7d1d6201"), looks := true }, kinds := [], alts := [], laidByText := true, laidKinds := [.data, .data, .data, .handle, .data, .data, .data, .data], laidTests := true, laidLooks := .later }
def ProofDigestsUptoCardSaid : Prop := Claim7.holds Tryd.pinned (.plain (OpenSpec.upto proofDigestsSpec)) proofDigestsUptoCard

/-- THE SECOND FORM's CARD OF 'gatepostlaw.StoryLines'. -/
def storyLinesUptoCard : Claim7 := { stood := { row := storyLinesUptoRow, standIns := [], harness := (true, "b50143651d3822c7d636cbf025aab85837b12d75fe64b0d4c497dcbf7d1d6201"), looks := true }, kinds := [], alts := [], laidByText := true, laidKinds := [.data, .data, .data, .data, .listed, .data, .data, .pinned, .pinned, .pinned, .pinned, .pinned, .pinned], laidTests := true, laidLooks := .later }
def StoryLinesUptoCardSaid : Prop := Claim7.holds Tryd.pinned (.plain (OpenSpec.upto storyLinesSpec)) storyLinesUptoCard

/-- THE SECOND FORM's CARD OF 'gatepostlaw.StoryPrints'. -/
def storyPrintsUptoCard : Claim7 := { stood := { row := storyPrintsUptoRow, standIns := [], harness := (true, "b50143651d3822c7d636cbf025aab85837b12d75fe64b0d4c497dcbf7d1d6201"), looks := true }, kinds := [], alts := [], laidByText := true, laidKinds := [.data, .data, .data, .data, .listed, .data, .data, .pinned, .pinned, .pinned, .pinned, .pinned, .pinned], laidTests := true, laidLooks := .later }
def StoryPrintsUptoCardSaid : Prop := Claim7.holds Tryd.pinned (.plain (OpenSpec.upto storyPrintsSpec)) storyPrintsUptoCard
end Rows
end Go.Proofs.YtdlhihfjigcimaaDoor
