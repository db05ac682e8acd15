/-
  No cell of these rows narrows 'for every input' (looked for: loops, veiled, ifaces, maps, wideKeys, modest, calm, conditions, laid).
  DERIVED. THE GIVEN ROWS OF THIS SEAT. 9 by the template 'for every input the law returns true; each argument reads behind the call as it read before'; 0 by the template 'total and deterministic' (their statements: YteflbehlgnfkfaaTotals.lean).
  GIVEN WITH THE SEED: the statements are not yours to turn. If you find one false, say at which input.
  Laid BY PROGRAM, IN A SANDBOX (cutbox-rows.mjs): the forced cells as the released guide's own fill.sh prints them over the translation a649924b41f2b319… (all of the seat's roots in one cut). By AI agents, Wed Nov 11 2026. No macro, syntax, notation, axiom, sorry.
-/
import Derived.Test.YteflbehlgnfkfaaChecked
import GoSem.Claim
import GoSem.ClaimJoined
import GoSem.ClaimMapViews
import Derived.JoinedTies
import Derived.KernelRfl
namespace Go.Proofs.Yteflbehlgnfkfaa
/- THE CELL 'sum', in the pinned program and in every row, IS THE sha256 OF THE DUMP (.gsa) THAT YteflbehlgnfkfaaProg.lean LOADS. Nothing in Lean hashes anything: it is a label: what it is worth is what the hold of that sum in a sandbox is worth. -/
noncomputable def Try.pinned : Pinned := { name := "yteflbehlgnfkfaa", sum := "a649924b41f2b319f4f3e85b9156473fac6c2ddf29650ce59f7d61fb3cd517d0", checked := Try.checked }
namespace Rows
def none {H : Type} : Left H := { results := [], args := [] }

/-- 'gatepostlaw.CodingLower': WHATEVER THE INPUT: true; the input reads as it did. -/
def codingLowerSpec : ChangeSpec := { name := "codingLower", fn := fun _ => fun
  | [d] => { results := [.lit (.bool true)], args := [d] }
  | _ => none }
def codingLowerRow : OpenClaim := { program := "yteflbehlgnfkfaa", sum := "a649924b41f2b319f4f3e85b9156473fac6c2ddf29650ce59f7d61fb3cd517d0", func := "gatepost/gatepostlaw.CodingLower", spec := "codingLower", apart := false }
def CodingLowerSaid : Prop := codingLowerRow.holds Try.pinned (OpenSpec.ofChange codingLowerSpec)

/-- ITS FALSE NEIGHBOUR: 'it returns false'. Refute it at one input. -/
def codingLowerWrong : ChangeSpec := { name := "codingLower", fn := fun _ => fun
  | [d] => { results := [.lit (.bool false)], args := [d] }
  | _ => none }
def CodingLowerWrongFalsely : Prop := codingLowerRow.holds Try.pinned (OpenSpec.ofChange codingLowerWrong)

/-- 'gatepostlaw.TokenSames': WHATEVER THE INPUT: true; the input reads as it did. -/
def tokenSamesSpec : ChangeSpec := { name := "tokenSames", fn := fun _ => fun
  | [d1, d2] => { results := [.lit (.bool true)], args := [d1, d2] }
  | _ => none }
def tokenSamesRow : OpenClaim := { program := "yteflbehlgnfkfaa", sum := "a649924b41f2b319f4f3e85b9156473fac6c2ddf29650ce59f7d61fb3cd517d0", func := "gatepost/gatepostlaw.TokenSames", spec := "tokenSames", apart := false }
def TokenSamesSaid : Prop := tokenSamesRow.holds Try.pinned (OpenSpec.ofChange tokenSamesSpec)

/-- ITS FALSE NEIGHBOUR: 'it returns false'. Refute it at one input. -/
def tokenSamesWrong : ChangeSpec := { name := "tokenSames", fn := fun _ => fun
  | [d1, d2] => { results := [.lit (.bool false)], args := [d1, d2] }
  | _ => none }
def TokenSamesWrongFalsely : Prop := tokenSamesRow.holds Try.pinned (OpenSpec.ofChange tokenSamesWrong)

/-- 'gatepostlaw.TokenWords': WHATEVER THE INPUT: true; the input reads as it did. -/
def tokenWordsSpec : ChangeSpec := { name := "tokenWords", fn := fun _ => fun
  | [d1, d2] => { results := [.lit (.bool true)], args := [d1, d2] }
  | _ => none }
def tokenWordsRow : OpenClaim := { program := "yteflbehlgnfkfaa", sum := "a649924b41f2b319f4f3e85b9156473fac6c2ddf29650ce59f7d61fb3cd517d0", func := "gatepost/gatepostlaw.TokenWords", spec := "tokenWords", inPlace := ["internal/bytealg.IndexByteString"], apart := false }
def TokenWordsSaid : Prop := tokenWordsRow.holds Try.pinned (OpenSpec.ofChange tokenWordsSpec)

/-- ITS FALSE NEIGHBOUR: 'it returns false'. Refute it at one input. -/
def tokenWordsWrong : ChangeSpec := { name := "tokenWords", fn := fun _ => fun
  | [d1, d2] => { results := [.lit (.bool false)], args := [d1, d2] }
  | _ => none }
def TokenWordsWrongFalsely : Prop := tokenWordsRow.holds Try.pinned (OpenSpec.ofChange tokenWordsWrong)

/-- 'gatepostlaw.AskGets': WHATEVER THE INPUT: true; the input reads as it did. -/
def askGetsSpec : ChangeSpec := { name := "askGets", fn := fun _ => fun
  | [d1, d2] => { results := [.lit (.bool true)], args := [d1, d2] }
  | _ => none }
def askGetsRow : OpenClaim := { program := "yteflbehlgnfkfaa", sum := "a649924b41f2b319f4f3e85b9156473fac6c2ddf29650ce59f7d61fb3cd517d0", func := "gatepost/gatepostlaw.AskGets", spec := "askGets", apart := false }
def AskGetsSaid : Prop := askGetsRow.holds Try.pinned (OpenSpec.ofChange askGetsSpec)

/-- ITS FALSE NEIGHBOUR: 'it returns false'. Refute it at one input. -/
def askGetsWrong : ChangeSpec := { name := "askGets", fn := fun _ => fun
  | [d1, d2] => { results := [.lit (.bool false)], args := [d1, d2] }
  | _ => none }
def AskGetsWrongFalsely : Prop := askGetsRow.holds Try.pinned (OpenSpec.ofChange askGetsWrong)

/-- 'gatepostlaw.UrlDirs': WHATEVER THE INPUT: true; the input reads as it did. -/
def urlDirsSpec : ChangeSpec := { name := "urlDirs", fn := fun _ => fun
  | [d1, d2] => { results := [.lit (.bool true)], args := [d1, d2] }
  | _ => none }
def urlDirsRow : OpenClaim := { program := "yteflbehlgnfkfaa", sum := "a649924b41f2b319f4f3e85b9156473fac6c2ddf29650ce59f7d61fb3cd517d0", func := "gatepost/gatepostlaw.UrlDirs", spec := "urlDirs", apart := false }
def UrlDirsSaid : Prop := urlDirsRow.holds Try.pinned (OpenSpec.ofChange urlDirsSpec)

/-- ITS FALSE NEIGHBOUR: 'it returns false'. Refute it at one input. -/
def urlDirsWrong : ChangeSpec := { name := "urlDirs", fn := fun _ => fun
  | [d1, d2] => { results := [.lit (.bool false)], args := [d1, d2] }
  | _ => none }
def UrlDirsWrongFalsely : Prop := urlDirsRow.holds Try.pinned (OpenSpec.ofChange urlDirsWrong)

/-- 'gatepostlaw.FetchRights': WHATEVER THE INPUT: true; the input reads as it did. -/
def fetchRightsSpec : ChangeSpec := { name := "fetchRights", fn := fun _ => fun
  | [d] => { results := [.lit (.bool true)], args := [d] }
  | _ => none }
def fetchRightsRow : OpenClaim := { program := "yteflbehlgnfkfaa", sum := "a649924b41f2b319f4f3e85b9156473fac6c2ddf29650ce59f7d61fb3cd517d0", func := "gatepost/gatepostlaw.FetchRights", spec := "fetchRights", inPlace := ["internal/bytealg.IndexByteString"], apart := false }
def FetchRightsSaid : Prop := fetchRightsRow.holds Try.pinned (OpenSpec.ofChange fetchRightsSpec)

/-- ITS FALSE NEIGHBOUR: 'it returns false'. Refute it at one input. -/
def fetchRightsWrong : ChangeSpec := { name := "fetchRights", fn := fun _ => fun
  | [d] => { results := [.lit (.bool false)], args := [d] }
  | _ => none }
def FetchRightsWrongFalsely : Prop := fetchRightsRow.holds Try.pinned (OpenSpec.ofChange fetchRightsWrong)

/-- 'gatepostlaw.TokenJoins': WHATEVER THE INPUT: true; the input reads as it did. -/
def tokenJoinsSpec : ChangeSpec := { name := "tokenJoins", fn := fun _ => fun
  | [d] => { results := [.lit (.bool true)], args := [d] }
  | _ => none }
def tokenJoinsRow : OpenClaim := { program := "yteflbehlgnfkfaa", sum := "a649924b41f2b319f4f3e85b9156473fac6c2ddf29650ce59f7d61fb3cd517d0", func := "gatepost/gatepostlaw.TokenJoins", spec := "tokenJoins", inPlace := ["internal/abi.NoEscape", "internal/bytealg.MakeNoZero"], apart := false }
def TokenJoinsSaid : Prop := tokenJoinsRow.holds Try.pinned (OpenSpec.ofChange tokenJoinsSpec)

/-- ITS FALSE NEIGHBOUR: 'it returns false'. Refute it at one input. -/
def tokenJoinsWrong : ChangeSpec := { name := "tokenJoins", fn := fun _ => fun
  | [d] => { results := [.lit (.bool false)], args := [d] }
  | _ => none }
def TokenJoinsWrongFalsely : Prop := tokenJoinsRow.holds Try.pinned (OpenSpec.ofChange tokenJoinsWrong)

/-- 'gatepostlaw.CorsGets': WHATEVER THE INPUT: true; the input reads as it did. -/
def corsGetsSpec : ChangeSpec := { name := "corsGets", fn := fun _ => fun
  | [d1, d2] => { results := [.lit (.bool true)], args := [d1, d2] }
  | _ => none }
def corsGetsRow : OpenClaim := { program := "yteflbehlgnfkfaa", sum := "a649924b41f2b319f4f3e85b9156473fac6c2ddf29650ce59f7d61fb3cd517d0", func := "gatepost/gatepostlaw.CorsGets", spec := "corsGets", inPlace := ["internal/abi.NoEscape", "internal/bytealg.MakeNoZero"], apart := false }
def CorsGetsSaid : Prop := corsGetsRow.holds Try.pinned (OpenSpec.ofChange corsGetsSpec)

/-- ITS FALSE NEIGHBOUR: 'it returns false'. Refute it at one input. -/
def corsGetsWrong : ChangeSpec := { name := "corsGets", fn := fun _ => fun
  | [d1, d2] => { results := [.lit (.bool false)], args := [d1, d2] }
  | _ => none }
def CorsGetsWrongFalsely : Prop := corsGetsRow.holds Try.pinned (OpenSpec.ofChange corsGetsWrong)

/-- 'gatepostlaw.ScriptDecodes': WHATEVER THE INPUT: true; the input reads as it did. -/
def scriptDecodesSpec : ChangeSpec := { name := "scriptDecodes", fn := fun _ => fun
  | [d] => { results := [.lit (.bool true)], args := [d] }
  | _ => none }
def scriptDecodesRow : OpenClaim := { program := "yteflbehlgnfkfaa", sum := "a649924b41f2b319f4f3e85b9156473fac6c2ddf29650ce59f7d61fb3cd517d0", func := "gatepost/gatepostlaw.ScriptDecodes", spec := "scriptDecodes", inPlace := ["internal/bytealg.IndexByteString", "internal/bytealg.IndexString"], unfollowed := true, recurses := true, named := ["internal/bytealg.MaxLen"], apart := false }
def ScriptDecodesSaid : Prop := scriptDecodesRow.holds Try.pinned (OpenSpec.ofChange scriptDecodesSpec)

/-- ITS FALSE NEIGHBOUR: 'it returns false'. Refute it at one input. -/
def scriptDecodesWrong : ChangeSpec := { name := "scriptDecodes", fn := fun _ => fun
  | [d] => { results := [.lit (.bool false)], args := [d] }
  | _ => none }
def ScriptDecodesWrongFalsely : Prop := scriptDecodesRow.holds Try.pinned (OpenSpec.ofChange scriptDecodesWrong)

/- THE SECOND FORM. 'bulk': how many values and letters a reading holds, each counted each time it is reached (what is shared counts as often as it is met; a slice's spare places count too). A statement '..UptoSaid' is the law's where the arguments, and the package variables that the reading takes, are together of bulk at most 1048576: NARROWER than '..Said'. Prove '..Said' where nothing that the law and all that it calls make is longer than what came in: it says more and counts as full. Else prove '..UptoSaid'. A law counts once. -/
mutual
def uptoBulk {H : Type} : DataW H → Nat
  | .lit (.string bytes) => bytes.length + 1
  | .lit _ => 1
  | .nil => 1
  | .ptr d => uptoBulk d + 1
  | .slice elems spare => uptoBulkAll elems + uptoBulkAll spare + 1
  | .agg parts => uptoBulkAll parts + 1
  | .iface _ d => uptoBulk d + 1
  | .map entries => uptoBulkEntries entries + 1
  | .held _ => 1
def uptoBulkAll {H : Type} : List (DataW H) → Nat
  | [] => 0
  | d :: r => uptoBulk d + uptoBulkAll r
def uptoBulkEntries {H : Type} : List (Lit × DataW H) → Nat
  | [] => 0
  | x :: r => uptoBulkEntry x + uptoBulkEntries r
def uptoBulkEntry {H : Type} : Lit × DataW H → Nat
  | (.string bytes, d) => bytes.length + uptoBulk d + 1
  | (_, d) => uptoBulk d + 1
 end
def uptoSmall : (H : Type) → List (DataW H) → Bool := fun _ ds => decide (uptoBulkAll ds ≤ 1048576)
def OpenSpec.upto (s : _root_.Go.ChangeSpec) : _root_.Go.OpenSpec := { _root_.Go.OpenSpec.ofChange s with cond := some uptoSmall }

/-- 'gatepostlaw.CodingLower', WHERE WHAT IT READS IS OF BULK AT MOST 1048576: true; the input reads as it did. -/
def codingLowerUptoRow : OpenClaim := { program := "yteflbehlgnfkfaa", sum := "a649924b41f2b319f4f3e85b9156473fac6c2ddf29650ce59f7d61fb3cd517d0", func := "gatepost/gatepostlaw.CodingLower", spec := "codingLower", apart := false, narrowed := true }
def CodingLowerUptoSaid : Prop := codingLowerUptoRow.holds Try.pinned (OpenSpec.upto codingLowerSpec)

/-- 'gatepostlaw.TokenSames', WHERE WHAT IT READS IS OF BULK AT MOST 1048576: true; the input reads as it did. -/
def tokenSamesUptoRow : OpenClaim := { program := "yteflbehlgnfkfaa", sum := "a649924b41f2b319f4f3e85b9156473fac6c2ddf29650ce59f7d61fb3cd517d0", func := "gatepost/gatepostlaw.TokenSames", spec := "tokenSames", apart := false, narrowed := true }
def TokenSamesUptoSaid : Prop := tokenSamesUptoRow.holds Try.pinned (OpenSpec.upto tokenSamesSpec)

/-- 'gatepostlaw.TokenWords', WHERE WHAT IT READS IS OF BULK AT MOST 1048576: true; the input reads as it did. -/
def tokenWordsUptoRow : OpenClaim := { program := "yteflbehlgnfkfaa", sum := "a649924b41f2b319f4f3e85b9156473fac6c2ddf29650ce59f7d61fb3cd517d0", func := "gatepost/gatepostlaw.TokenWords", spec := "tokenWords", inPlace := ["internal/bytealg.IndexByteString"], apart := false, narrowed := true }
def TokenWordsUptoSaid : Prop := tokenWordsUptoRow.holds Try.pinned (OpenSpec.upto tokenWordsSpec)

/-- 'gatepostlaw.AskGets', WHERE WHAT IT READS IS OF BULK AT MOST 1048576: true; the input reads as it did. -/
def askGetsUptoRow : OpenClaim := { program := "yteflbehlgnfkfaa", sum := "a649924b41f2b319f4f3e85b9156473fac6c2ddf29650ce59f7d61fb3cd517d0", func := "gatepost/gatepostlaw.AskGets", spec := "askGets", apart := false, narrowed := true }
def AskGetsUptoSaid : Prop := askGetsUptoRow.holds Try.pinned (OpenSpec.upto askGetsSpec)

/-- 'gatepostlaw.UrlDirs', WHERE WHAT IT READS IS OF BULK AT MOST 1048576: true; the input reads as it did. -/
def urlDirsUptoRow : OpenClaim := { program := "yteflbehlgnfkfaa", sum := "a649924b41f2b319f4f3e85b9156473fac6c2ddf29650ce59f7d61fb3cd517d0", func := "gatepost/gatepostlaw.UrlDirs", spec := "urlDirs", apart := false, narrowed := true }
def UrlDirsUptoSaid : Prop := urlDirsUptoRow.holds Try.pinned (OpenSpec.upto urlDirsSpec)

/-- 'gatepostlaw.FetchRights', WHERE WHAT IT READS IS OF BULK AT MOST 1048576: true; the input reads as it did. -/
def fetchRightsUptoRow : OpenClaim := { program := "yteflbehlgnfkfaa", sum := "a649924b41f2b319f4f3e85b9156473fac6c2ddf29650ce59f7d61fb3cd517d0", func := "gatepost/gatepostlaw.FetchRights", spec := "fetchRights", inPlace := ["internal/bytealg.IndexByteString"], apart := false, narrowed := true }
def FetchRightsUptoSaid : Prop := fetchRightsUptoRow.holds Try.pinned (OpenSpec.upto fetchRightsSpec)

/-- 'gatepostlaw.TokenJoins', WHERE WHAT IT READS IS OF BULK AT MOST 1048576: true; the input reads as it did. -/
def tokenJoinsUptoRow : OpenClaim := { program := "yteflbehlgnfkfaa", sum := "a649924b41f2b319f4f3e85b9156473fac6c2ddf29650ce59f7d61fb3cd517d0", func := "gatepost/gatepostlaw.TokenJoins", spec := "tokenJoins", inPlace := ["internal/abi.NoEscape", "internal/bytealg.MakeNoZero"], apart := false, narrowed := true }
def TokenJoinsUptoSaid : Prop := tokenJoinsUptoRow.holds Try.pinned (OpenSpec.upto tokenJoinsSpec)

/-- 'gatepostlaw.CorsGets', WHERE WHAT IT READS IS OF BULK AT MOST 1048576: true; the input reads as it did. -/
def corsGetsUptoRow : OpenClaim := { program := "yteflbehlgnfkfaa", sum := "a649924b41f2b319f4f3e85b9156473fac6c2ddf29650ce59f7d61fb3cd517d0", func := "gatepost/gatepostlaw.CorsGets", spec := "corsGets", inPlace := ["internal/abi.NoEscape", "internal/bytealg.MakeNoZero"], apart := false, narrowed := true }
def CorsGetsUptoSaid : Prop := corsGetsUptoRow.holds Try.pinned (OpenSpec.upto corsGetsSpec)

/-- 'gatepostlaw.ScriptDecodes', WHERE WHAT IT READS IS OF BULK AT MOST 1048576: true; the input reads as it did. -/
def scriptDecodesUptoRow : OpenClaim := { program := "yteflbehlgnfkfaa", sum := "a649924b41f2b319f4f3e85b9156473fac6c2ddf29650ce59f7d61fb3cd517d0", func := "gatepost/gatepostlaw.ScriptDecodes", spec := "scriptDecodes", inPlace := ["internal/bytealg.IndexByteString", "internal/bytealg.IndexString"], unfollowed := true, recurses := true, named := ["internal/bytealg.MaxLen"], apart := false, narrowed := true }
def ScriptDecodesUptoSaid : Prop := scriptDecodesUptoRow.holds Try.pinned (OpenSpec.upto scriptDecodesSpec)

end Rows
end Go.Proofs.Yteflbehlgnfkfaa
