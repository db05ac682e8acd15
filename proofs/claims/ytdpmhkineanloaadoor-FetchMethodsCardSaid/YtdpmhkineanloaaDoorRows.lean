/-
  NARROWER THAN 'FOR EVERY INPUT', by the rows' own cells (each row's printed sentence says how): CodingHex: laid · UrlPrints: laid · TokenGoes: laid · CorsMays: laid · FetchMethods: laid · UrlCleans: laid · ProofCounts: laid · BankKeeps: laid · CorsAges: laid · CodingUnhex: laid · UrlRights: laid · TokenSeconds: laid.
  DERIVED. THE GIVEN ROWS OF THIS SEAT. 12 by the template 'for every input the law returns true; each argument reads behind the call as it read before'; 0 by the template 'total and deterministic' (their statements: YtdpmhkineanloaaDoorTotals.lean).
  GIVEN WITH THE SEED: the statements are not yours to turn. If you find one false, say at which input.
  Laid BY PROGRAM, IN A SANDBOX (cutbox-rows.mjs): the forced cells as the released guide's own fill.sh prints them over the translation d3a3450871d7dcc4… (all of the seat's roots in one cut). By AI agents, Wed Nov 11 2026. No macro, syntax, notation, axiom, sorry.
-/
import Derived.Test.YtdpmhkineanloaaDoorChecked
import GoSem.PinnedTables
import GoSem.Claim
import GoSem.ClaimJoined
import GoSem.ClaimMapViews
import Derived.JoinedTies
import Derived.KernelRfl
namespace Go.Proofs.YtdpmhkineanloaaDoor
/- THE CELL 'sum', in the pinned program and in every row, IS THE sha256 OF THE DUMP (.gsa) THAT YtdpmhkineanloaaDoorProg.lean LOADS. Nothing in Lean hashes anything: it is a label: what it is worth is what the hold of that sum in a sandbox is worth. -/
noncomputable def Tryd.pinned : Pinned := { name := "ytdpmhkineanloaadoor", sum := "d3a3450871d7dcc41a6861beb1cf38284008056e8d0abe14a1a7c55b20bc8cbd", checked := Tryd.checked }
namespace Rows
def none {H : Type} : Left H := { results := [], args := [] }

/- WHAT THE LISTED PACKAGE-LEVEL VARIABLES READ AS WHEN THE CALL BEGINS. Each datum BY PROGRAM (the guide's laid-datum.mjs) off the statement by which the dump's own 'gosem.cut.vars' lays the variable. In a bare row this is a premise. The card (YtdpmhkineanloaaDoorCards.lean) ties it to the program's text. -/
def laid_math_bits_deBruijn32tab {H : Type} : DataW H := .agg [.lit (.int .u8 0), .lit (.int .u8 1), .lit (.int .u8 28), .lit (.int .u8 2), .lit (.int .u8 29), .lit (.int .u8 14), .lit (.int .u8 24), .lit (.int .u8 3), .lit (.int .u8 30), .lit (.int .u8 22), .lit (.int .u8 20), .lit (.int .u8 15), .lit (.int .u8 25), .lit (.int .u8 17), .lit (.int .u8 4), .lit (.int .u8 8), .lit (.int .u8 31), .lit (.int .u8 27), .lit (.int .u8 13), .lit (.int .u8 23), .lit (.int .u8 21), .lit (.int .u8 19), .lit (.int .u8 16), .lit (.int .u8 7), .lit (.int .u8 26), .lit (.int .u8 12), .lit (.int .u8 18), .lit (.int .u8 6), .lit (.int .u8 11), .lit (.int .u8 5), .lit (.int .u8 10), .lit (.int .u8 9)]
def laid_math_bits_deBruijn64tab {H : Type} : DataW H := .agg [.lit (.int .u8 0), .lit (.int .u8 1), .lit (.int .u8 56), .lit (.int .u8 2), .lit (.int .u8 57), .lit (.int .u8 49), .lit (.int .u8 28), .lit (.int .u8 3), .lit (.int .u8 61), .lit (.int .u8 58), .lit (.int .u8 42), .lit (.int .u8 50), .lit (.int .u8 38), .lit (.int .u8 29), .lit (.int .u8 17), .lit (.int .u8 4), .lit (.int .u8 62), .lit (.int .u8 47), .lit (.int .u8 59), .lit (.int .u8 36), .lit (.int .u8 45), .lit (.int .u8 43), .lit (.int .u8 51), .lit (.int .u8 22), .lit (.int .u8 53), .lit (.int .u8 39), .lit (.int .u8 33), .lit (.int .u8 30), .lit (.int .u8 24), .lit (.int .u8 18), .lit (.int .u8 12), .lit (.int .u8 5), .lit (.int .u8 63), .lit (.int .u8 55), .lit (.int .u8 48), .lit (.int .u8 27), .lit (.int .u8 60), .lit (.int .u8 41), .lit (.int .u8 37), .lit (.int .u8 16), .lit (.int .u8 46), .lit (.int .u8 35), .lit (.int .u8 44), .lit (.int .u8 21), .lit (.int .u8 52), .lit (.int .u8 32), .lit (.int .u8 23), .lit (.int .u8 11), .lit (.int .u8 54), .lit (.int .u8 26), .lit (.int .u8 40), .lit (.int .u8 15), .lit (.int .u8 34), .lit (.int .u8 20), .lit (.int .u8 31), .lit (.int .u8 10), .lit (.int .u8 25), .lit (.int .u8 14), .lit (.int .u8 19), .lit (.int .u8 9), .lit (.int .u8 13), .lit (.int .u8 8), .lit (.int .u8 7), .lit (.int .u8 6)]
def laid_internal_strconv_uint64pow10 {H : Type} : DataW H := .agg [.lit (.int .u64 1), .lit (.int .u64 10), .lit (.int .u64 100), .lit (.int .u64 1000), .lit (.int .u64 10000), .lit (.int .u64 100000), .lit (.int .u64 1000000), .lit (.int .u64 10000000), .lit (.int .u64 100000000), .lit (.int .u64 1000000000), .lit (.int .u64 10000000000), .lit (.int .u64 100000000000), .lit (.int .u64 1000000000000), .lit (.int .u64 10000000000000), .lit (.int .u64 100000000000000), .lit (.int .u64 1000000000000000), .lit (.int .u64 10000000000000000), .lit (.int .u64 100000000000000000), .lit (.int .u64 1000000000000000000), .lit (.int .u64 10000000000000000000)]
def laid_unicode_utf8_acceptRanges {H : Type} : DataW H := .agg [.agg [.lit (.int .u8 128), .lit (.int .u8 191)], .agg [.lit (.int .u8 160), .lit (.int .u8 191)], .agg [.lit (.int .u8 128), .lit (.int .u8 159)], .agg [.lit (.int .u8 144), .lit (.int .u8 191)], .agg [.lit (.int .u8 128), .lit (.int .u8 143)], .agg [.lit (.int .u8 0), .lit (.int .u8 0)], .agg [.lit (.int .u8 0), .lit (.int .u8 0)], .agg [.lit (.int .u8 0), .lit (.int .u8 0)], .agg [.lit (.int .u8 0), .lit (.int .u8 0)], .agg [.lit (.int .u8 0), .lit (.int .u8 0)], .agg [.lit (.int .u8 0), .lit (.int .u8 0)], .agg [.lit (.int .u8 0), .lit (.int .u8 0)], .agg [.lit (.int .u8 0), .lit (.int .u8 0)], .agg [.lit (.int .u8 0), .lit (.int .u8 0)], .agg [.lit (.int .u8 0), .lit (.int .u8 0)], .agg [.lit (.int .u8 0), .lit (.int .u8 0)]]
/-- One of Go's own tables, pinned by name: the form's constant. -/
def laid_unicode_utf8_first : DataW Unit := Go.Pinned.utf8First
/-- One of Go's own tables, pinned by name: the form's constant. -/
def laid_unicode_CaseRanges : DataW Unit := Go.Pinned.caseRanges
def laid_errors_errorType {H : Type} : DataW H := .iface "internal/reflectlite.rtype" (.agg [.ptr (.lit (.string [101, 114, 114, 111, 114]))])

/-- 'gatepostlaw.CodingHex': WHATEVER THE INPUT: true; the input reads as it did. -/
def codingHexSpec : ChangeSpec := { name := "codingHex", fn := fun _ => fun
  | [d] => { results := [.lit (.bool true)], args := [d] }
  | _ => none }
def codingHexRow : OpenClaim := { program := "ytdpmhkineanloaadoor", sum := "d3a3450871d7dcc41a6861beb1cf38284008056e8d0abe14a1a7c55b20bc8cbd", func := "gatepost/gatepostlaw.CodingHex", spec := "codingHex", inPlace := ["internal/abi.NoEscape"], named := ["internal/strconv.uint64pow10", "math/bits.deBruijn32tab", "math/bits.deBruijn64tab"], apart := false, laid := [("math/bits.deBruijn32tab", laid_math_bits_deBruijn32tab), ("math/bits.deBruijn64tab", laid_math_bits_deBruijn64tab), ("internal/strconv.uint64pow10", laid_internal_strconv_uint64pow10)] }
def CodingHexSaid : Prop := codingHexRow.holds Tryd.pinned (OpenSpec.ofChange codingHexSpec)

/-- ITS FALSE NEIGHBOUR: 'it returns false'. Refute it at one input. -/
def codingHexWrong : ChangeSpec := { name := "codingHex", fn := fun _ => fun
  | [d] => { results := [.lit (.bool false)], args := [d] }
  | _ => none }
def CodingHexWrongFalsely : Prop := codingHexRow.holds Tryd.pinned (OpenSpec.ofChange codingHexWrong)

/-- 'gatepostlaw.UrlPrints': WHATEVER THE INPUT: true; the input reads as it did. -/
def urlPrintsSpec : ChangeSpec := { name := "urlPrints", fn := fun _ => fun
  | [d] => { results := [.lit (.bool true)], args := [d] }
  | _ => none }
def urlPrintsRow : OpenClaim := { program := "ytdpmhkineanloaadoor", sum := "d3a3450871d7dcc41a6861beb1cf38284008056e8d0abe14a1a7c55b20bc8cbd", func := "gatepost/gatepostlaw.UrlPrints", spec := "urlPrints", named := ["internal/strconv.uint64pow10", "math/bits.deBruijn32tab", "math/bits.deBruijn64tab"], apart := false, laid := [("math/bits.deBruijn32tab", laid_math_bits_deBruijn32tab), ("math/bits.deBruijn64tab", laid_math_bits_deBruijn64tab), ("internal/strconv.uint64pow10", laid_internal_strconv_uint64pow10)] }
def UrlPrintsSaid : Prop := urlPrintsRow.holds Tryd.pinned (OpenSpec.ofChange urlPrintsSpec)

/-- ITS FALSE NEIGHBOUR: 'it returns false'. Refute it at one input. -/
def urlPrintsWrong : ChangeSpec := { name := "urlPrints", fn := fun _ => fun
  | [d] => { results := [.lit (.bool false)], args := [d] }
  | _ => none }
def UrlPrintsWrongFalsely : Prop := urlPrintsRow.holds Tryd.pinned (OpenSpec.ofChange urlPrintsWrong)

/-- 'gatepostlaw.TokenGoes': WHATEVER THE INPUT: true; the input reads as it did. -/
def tokenGoesSpec : ChangeSpec := { name := "tokenGoes", fn := fun _ => fun
  | [d1, d2] => { results := [.lit (.bool true)], args := [d1, d2] }
  | _ => none }
def tokenGoesRow : OpenClaim := { program := "ytdpmhkineanloaadoor", sum := "d3a3450871d7dcc41a6861beb1cf38284008056e8d0abe14a1a7c55b20bc8cbd", func := "gatepost/gatepostlaw.TokenGoes", spec := "tokenGoes", inPlace := ["internal/bytealg.IndexByteString", "internal/bytealg.IndexString"], named := ["unicode/utf8.first", "unicode/utf8.acceptRanges", "internal/bytealg.MaxLen"], apart := false, laid := [("unicode/utf8.acceptRanges", laid_unicode_utf8_acceptRanges), ("unicode/utf8.first", laid_unicode_utf8_first)] }
def TokenGoesSaid : Prop := tokenGoesRow.holds Tryd.pinned (OpenSpec.ofChange tokenGoesSpec)

/-- ITS FALSE NEIGHBOUR: 'it returns false'. Refute it at one input. -/
def tokenGoesWrong : ChangeSpec := { name := "tokenGoes", fn := fun _ => fun
  | [d1, d2] => { results := [.lit (.bool false)], args := [d1, d2] }
  | _ => none }
def TokenGoesWrongFalsely : Prop := tokenGoesRow.holds Tryd.pinned (OpenSpec.ofChange tokenGoesWrong)

/-- 'gatepostlaw.CorsMays': WHATEVER THE INPUT: true; the input reads as it did. -/
def corsMaysSpec : ChangeSpec := { name := "corsMays", fn := fun _ => fun
  | [d1, d2] => { results := [.lit (.bool true)], args := [d1, d2] }
  | _ => none }
def corsMaysRow : OpenClaim := { program := "ytdpmhkineanloaadoor", sum := "d3a3450871d7dcc41a6861beb1cf38284008056e8d0abe14a1a7c55b20bc8cbd", func := "gatepost/gatepostlaw.CorsMays", spec := "corsMays", inPlace := ["internal/abi.NoEscape", "internal/bytealg.MakeNoZero"], named := ["internal/strconv.uint64pow10", "math/bits.deBruijn32tab", "math/bits.deBruijn64tab"], apart := false, laid := [("math/bits.deBruijn32tab", laid_math_bits_deBruijn32tab), ("math/bits.deBruijn64tab", laid_math_bits_deBruijn64tab), ("internal/strconv.uint64pow10", laid_internal_strconv_uint64pow10)] }
def CorsMaysSaid : Prop := corsMaysRow.holds Tryd.pinned (OpenSpec.ofChange corsMaysSpec)

/-- ITS FALSE NEIGHBOUR: 'it returns false'. Refute it at one input. -/
def corsMaysWrong : ChangeSpec := { name := "corsMays", fn := fun _ => fun
  | [d1, d2] => { results := [.lit (.bool false)], args := [d1, d2] }
  | _ => none }
def CorsMaysWrongFalsely : Prop := corsMaysRow.holds Tryd.pinned (OpenSpec.ofChange corsMaysWrong)

/-- 'gatepostlaw.FetchMethods': WHATEVER THE INPUT: true; the input reads as it did. -/
def fetchMethodsSpec : ChangeSpec := { name := "fetchMethods", fn := fun _ => fun
  | [d] => { results := [.lit (.bool true)], args := [d] }
  | _ => none }
def fetchMethodsRow : OpenClaim := { program := "ytdpmhkineanloaadoor", sum := "d3a3450871d7dcc41a6861beb1cf38284008056e8d0abe14a1a7c55b20bc8cbd", func := "gatepost/gatepostlaw.FetchMethods", spec := "fetchMethods", inPlace := ["internal/abi.NoEscape", "internal/bytealg.MakeNoZero"], unfollowed := true, recurses := true, named := ["unicode/utf8.first", "unicode/utf8.acceptRanges", "unicode.CaseRanges"], apart := false, laid := [("unicode/utf8.acceptRanges", laid_unicode_utf8_acceptRanges), ("unicode.CaseRanges", laid_unicode_CaseRanges), ("unicode/utf8.first", laid_unicode_utf8_first)] }
def FetchMethodsSaid : Prop := fetchMethodsRow.holds Tryd.pinned (OpenSpec.ofChange fetchMethodsSpec)

/-- ITS FALSE NEIGHBOUR: 'it returns false'. Refute it at one input. -/
def fetchMethodsWrong : ChangeSpec := { name := "fetchMethods", fn := fun _ => fun
  | [d] => { results := [.lit (.bool false)], args := [d] }
  | _ => none }
def FetchMethodsWrongFalsely : Prop := fetchMethodsRow.holds Tryd.pinned (OpenSpec.ofChange fetchMethodsWrong)

/-- 'gatepostlaw.UrlCleans': WHATEVER THE INPUT: true; the input reads as it did. -/
def urlCleansSpec : ChangeSpec := { name := "urlCleans", fn := fun _ => fun
  | [d] => { results := [.lit (.bool true)], args := [d] }
  | _ => none }
def urlCleansRow : OpenClaim := { program := "ytdpmhkineanloaadoor", sum := "d3a3450871d7dcc41a6861beb1cf38284008056e8d0abe14a1a7c55b20bc8cbd", func := "gatepost/gatepostlaw.UrlCleans", spec := "urlCleans", inPlace := ["internal/bytealg.CountString", "internal/bytealg.IndexByteString", "internal/bytealg.IndexString", "internal/abi.NoEscape", "internal/bytealg.MakeNoZero"], named := ["unicode/utf8.first", "unicode/utf8.acceptRanges", "internal/bytealg.MaxLen"], apart := false, laid := [("unicode/utf8.acceptRanges", laid_unicode_utf8_acceptRanges), ("unicode/utf8.first", laid_unicode_utf8_first)] }
def UrlCleansSaid : Prop := urlCleansRow.holds Tryd.pinned (OpenSpec.ofChange urlCleansSpec)

/-- ITS FALSE NEIGHBOUR: 'it returns false'. Refute it at one input. -/
def urlCleansWrong : ChangeSpec := { name := "urlCleans", fn := fun _ => fun
  | [d] => { results := [.lit (.bool false)], args := [d] }
  | _ => none }
def UrlCleansWrongFalsely : Prop := urlCleansRow.holds Tryd.pinned (OpenSpec.ofChange urlCleansWrong)

/-- 'gatepostlaw.ProofCounts': WHATEVER THE INPUT: true; the input reads as it did. -/
def proofCountsSpec : ChangeSpec := { name := "proofCounts", fn := fun _ => fun
  | [d] => { results := [.lit (.bool true)], args := [d] }
  | _ => none }
def proofCountsRow : OpenClaim := { program := "ytdpmhkineanloaadoor", sum := "d3a3450871d7dcc41a6861beb1cf38284008056e8d0abe14a1a7c55b20bc8cbd", func := "gatepost/gatepostlaw.ProofCounts", spec := "proofCounts", inPlace := ["internal/abi.NoEscape", "internal/bytealg.MakeNoZero"], named := ["internal/strconv.uint64pow10", "math/bits.deBruijn32tab", "math/bits.deBruijn64tab"], apart := false, laid := [("math/bits.deBruijn32tab", laid_math_bits_deBruijn32tab), ("math/bits.deBruijn64tab", laid_math_bits_deBruijn64tab), ("internal/strconv.uint64pow10", laid_internal_strconv_uint64pow10)] }
def ProofCountsSaid : Prop := proofCountsRow.holds Tryd.pinned (OpenSpec.ofChange proofCountsSpec)

/-- ITS FALSE NEIGHBOUR: 'it returns false'. Refute it at one input. -/
def proofCountsWrong : ChangeSpec := { name := "proofCounts", fn := fun _ => fun
  | [d] => { results := [.lit (.bool false)], args := [d] }
  | _ => none }
def ProofCountsWrongFalsely : Prop := proofCountsRow.holds Tryd.pinned (OpenSpec.ofChange proofCountsWrong)

/-- 'gatepostlaw.BankKeeps': WHATEVER THE INPUT: true; the input reads as it did. -/
def bankKeepsSpec : ChangeSpec := { name := "bankKeeps", fn := fun _ => fun
  | [d] => { results := [.lit (.bool true)], args := [d] }
  | _ => none }
def bankKeepsRow : OpenClaim := { program := "ytdpmhkineanloaadoor", sum := "d3a3450871d7dcc41a6861beb1cf38284008056e8d0abe14a1a7c55b20bc8cbd", func := "gatepost/gatepostlaw.BankKeeps", spec := "bankKeeps", inPlace := ["internal/reflectlite.ValueOf", "(internal/reflectlite.Value).Type", "(internal/reflectlite.Value).IsNil", "internal/reflectlite.TypeOf", "(internal/reflectlite.Value).Elem", "(internal/reflectlite.Value).Set"], unfollowed := true, recurses := true, named := ["errors.errorType"], apart := false, laid := [("errors.errorType", laid_errors_errorType)] }
def BankKeepsSaid : Prop := bankKeepsRow.holds Tryd.pinned (OpenSpec.ofChange bankKeepsSpec)

/-- ITS FALSE NEIGHBOUR: 'it returns false'. Refute it at one input. -/
def bankKeepsWrong : ChangeSpec := { name := "bankKeeps", fn := fun _ => fun
  | [d] => { results := [.lit (.bool false)], args := [d] }
  | _ => none }
def BankKeepsWrongFalsely : Prop := bankKeepsRow.holds Tryd.pinned (OpenSpec.ofChange bankKeepsWrong)

/-- 'gatepostlaw.CorsAges': WHATEVER THE INPUT: true; the input reads as it did. -/
def corsAgesSpec : ChangeSpec := { name := "corsAges", fn := fun _ => fun
  | [d] => { results := [.lit (.bool true)], args := [d] }
  | _ => none }
def corsAgesRow : OpenClaim := { program := "ytdpmhkineanloaadoor", sum := "d3a3450871d7dcc41a6861beb1cf38284008056e8d0abe14a1a7c55b20bc8cbd", func := "gatepost/gatepostlaw.CorsAges", spec := "corsAges", inPlace := ["internal/abi.NoEscape", "internal/bytealg.MakeNoZero", "internal/bytealg.IndexByteString", "internal/bytealg.IndexString"], named := ["unicode/utf8.first", "unicode/utf8.acceptRanges", "internal/bytealg.MaxLen"], apart := false, laid := [("unicode/utf8.acceptRanges", laid_unicode_utf8_acceptRanges), ("unicode/utf8.first", laid_unicode_utf8_first)] }
def CorsAgesSaid : Prop := corsAgesRow.holds Tryd.pinned (OpenSpec.ofChange corsAgesSpec)

/-- ITS FALSE NEIGHBOUR: 'it returns false'. Refute it at one input. -/
def corsAgesWrong : ChangeSpec := { name := "corsAges", fn := fun _ => fun
  | [d] => { results := [.lit (.bool false)], args := [d] }
  | _ => none }
def CorsAgesWrongFalsely : Prop := corsAgesRow.holds Tryd.pinned (OpenSpec.ofChange corsAgesWrong)

/-- 'gatepostlaw.CodingUnhex': WHATEVER THE INPUT: true; the input reads as it did. -/
def codingUnhexSpec : ChangeSpec := { name := "codingUnhex", fn := fun _ => fun
  | [d] => { results := [.lit (.bool true)], args := [d] }
  | _ => none }
def codingUnhexRow : OpenClaim := { program := "ytdpmhkineanloaadoor", sum := "d3a3450871d7dcc41a6861beb1cf38284008056e8d0abe14a1a7c55b20bc8cbd", func := "gatepost/gatepostlaw.CodingUnhex", spec := "codingUnhex", inPlace := ["internal/bytealg.IndexByteString", "internal/abi.NoEscape", "internal/reflectlite.ValueOf", "(internal/reflectlite.Value).Type", "(internal/reflectlite.Value).IsNil", "internal/reflectlite.TypeOf", "(internal/reflectlite.Value).Elem", "(internal/reflectlite.Value).Set"], unfollowed := true, recurses := true, named := ["internal/strconv.uint64pow10", "math/bits.deBruijn32tab", "math/bits.deBruijn64tab", "errors.errorType"], apart := false, laid := [("math/bits.deBruijn32tab", laid_math_bits_deBruijn32tab), ("math/bits.deBruijn64tab", laid_math_bits_deBruijn64tab), ("internal/strconv.uint64pow10", laid_internal_strconv_uint64pow10), ("errors.errorType", laid_errors_errorType)] }
def CodingUnhexSaid : Prop := codingUnhexRow.holds Tryd.pinned (OpenSpec.ofChange codingUnhexSpec)

/-- ITS FALSE NEIGHBOUR: 'it returns false'. Refute it at one input. -/
def codingUnhexWrong : ChangeSpec := { name := "codingUnhex", fn := fun _ => fun
  | [d] => { results := [.lit (.bool false)], args := [d] }
  | _ => none }
def CodingUnhexWrongFalsely : Prop := codingUnhexRow.holds Tryd.pinned (OpenSpec.ofChange codingUnhexWrong)

/-- 'gatepostlaw.UrlRights': WHATEVER THE INPUT: true; the input reads as it did. -/
def urlRightsSpec : ChangeSpec := { name := "urlRights", fn := fun _ => fun
  | [d] => { results := [.lit (.bool true)], args := [d] }
  | _ => none }
def urlRightsRow : OpenClaim := { program := "ytdpmhkineanloaadoor", sum := "d3a3450871d7dcc41a6861beb1cf38284008056e8d0abe14a1a7c55b20bc8cbd", func := "gatepost/gatepostlaw.UrlRights", spec := "urlRights", inPlace := ["internal/bytealg.IndexByteString", "internal/bytealg.IndexString"], unfollowed := true, recurses := true, named := ["unicode/utf8.first", "unicode/utf8.acceptRanges", "internal/bytealg.MaxLen"], apart := false, laid := [("unicode/utf8.acceptRanges", laid_unicode_utf8_acceptRanges), ("unicode/utf8.first", laid_unicode_utf8_first)] }
def UrlRightsSaid : Prop := urlRightsRow.holds Tryd.pinned (OpenSpec.ofChange urlRightsSpec)

/-- ITS FALSE NEIGHBOUR: 'it returns false'. Refute it at one input. -/
def urlRightsWrong : ChangeSpec := { name := "urlRights", fn := fun _ => fun
  | [d] => { results := [.lit (.bool false)], args := [d] }
  | _ => none }
def UrlRightsWrongFalsely : Prop := urlRightsRow.holds Tryd.pinned (OpenSpec.ofChange urlRightsWrong)

/-- 'gatepostlaw.TokenSeconds': WHATEVER THE INPUT: true; the input reads as it did. -/
def tokenSecondsSpec : ChangeSpec := { name := "tokenSeconds", fn := fun _ => fun
  | [d] => { results := [.lit (.bool true)], args := [d] }
  | _ => none }
def tokenSecondsRow : OpenClaim := { program := "ytdpmhkineanloaadoor", sum := "d3a3450871d7dcc41a6861beb1cf38284008056e8d0abe14a1a7c55b20bc8cbd", func := "gatepost/gatepostlaw.TokenSeconds", spec := "tokenSeconds", inPlace := ["internal/bytealg.IndexByteString", "internal/bytealg.IndexString", "internal/reflectlite.ValueOf", "(internal/reflectlite.Value).Type", "(internal/reflectlite.Value).IsNil", "internal/reflectlite.TypeOf", "(internal/reflectlite.Value).Elem", "(internal/reflectlite.Value).Set"], unfollowed := true, recurses := true, named := ["unicode/utf8.first", "unicode/utf8.acceptRanges", "errors.errorType", "internal/bytealg.MaxLen"], apart := false, laid := [("unicode/utf8.acceptRanges", laid_unicode_utf8_acceptRanges), ("errors.errorType", laid_errors_errorType), ("unicode/utf8.first", laid_unicode_utf8_first)] }
def TokenSecondsSaid : Prop := tokenSecondsRow.holds Tryd.pinned (OpenSpec.ofChange tokenSecondsSpec)

/-- ITS FALSE NEIGHBOUR: 'it returns false'. Refute it at one input. -/
def tokenSecondsWrong : ChangeSpec := { name := "tokenSeconds", fn := fun _ => fun
  | [d] => { results := [.lit (.bool false)], args := [d] }
  | _ => none }
def TokenSecondsWrongFalsely : Prop := tokenSecondsRow.holds Tryd.pinned (OpenSpec.ofChange tokenSecondsWrong)

/- THE SECOND FORM. 'bulk': how many values and letters a reading holds, each counted each time it is reached (what is shared counts as often as it is met; a slice's spare places count too). A statement '..UptoSaid' is the law's where the arguments, and the package variables that the reading takes, are together of bulk at most 1048576: NARROWER than '..Said'. Prove '..Said' where nothing that the law and all that it calls make is longer than what came in: it says more and counts as full. Else prove '..UptoSaid'. A law counts once. -/
mutual
def uptoBulk {H : Type} : DataW H → Nat
  | .lit (.string bytes) => bytes.length + 1
  | .lit _ => 1
  | .nil => 1
  | .ptr d => uptoBulk d + 1
  | .slice elems spare => uptoBulkAll elems + uptoBulkAll spare + 1
  | .agg parts => uptoBulkAll parts + 1
  | .iface _ d => uptoBulk d + 1
  | .map entries => uptoBulkEntries entries + 1
  | .held _ => 1
def uptoBulkAll {H : Type} : List (DataW H) → Nat
  | [] => 0
  | d :: r => uptoBulk d + uptoBulkAll r
def uptoBulkEntries {H : Type} : List (Lit × DataW H) → Nat
  | [] => 0
  | x :: r => uptoBulkEntry x + uptoBulkEntries r
def uptoBulkEntry {H : Type} : Lit × DataW H → Nat
  | (.string bytes, d) => bytes.length + uptoBulk d + 1
  | (_, d) => uptoBulk d + 1
 end
def uptoSmall : (H : Type) → List (DataW H) → Bool := fun _ ds => decide (uptoBulkAll ds ≤ 1048576)
def OpenSpec.upto (s : _root_.Go.ChangeSpec) : _root_.Go.OpenSpec := { _root_.Go.OpenSpec.ofChange s with cond := some uptoSmall }

/-- 'gatepostlaw.CodingHex', WHERE WHAT IT READS IS OF BULK AT MOST 1048576: true; the input reads as it did. -/
def codingHexUptoRow : OpenClaim := { program := "ytdpmhkineanloaadoor", sum := "d3a3450871d7dcc41a6861beb1cf38284008056e8d0abe14a1a7c55b20bc8cbd", func := "gatepost/gatepostlaw.CodingHex", spec := "codingHex", inPlace := ["internal/abi.NoEscape"], named := ["internal/strconv.uint64pow10", "math/bits.deBruijn32tab", "math/bits.deBruijn64tab"], apart := false, laid := [("math/bits.deBruijn32tab", laid_math_bits_deBruijn32tab), ("math/bits.deBruijn64tab", laid_math_bits_deBruijn64tab), ("internal/strconv.uint64pow10", laid_internal_strconv_uint64pow10)], narrowed := true }
def CodingHexUptoSaid : Prop := codingHexUptoRow.holds Tryd.pinned (OpenSpec.upto codingHexSpec)

/-- 'gatepostlaw.UrlPrints', WHERE WHAT IT READS IS OF BULK AT MOST 1048576: true; the input reads as it did. -/
def urlPrintsUptoRow : OpenClaim := { program := "ytdpmhkineanloaadoor", sum := "d3a3450871d7dcc41a6861beb1cf38284008056e8d0abe14a1a7c55b20bc8cbd", func := "gatepost/gatepostlaw.UrlPrints", spec := "urlPrints", named := ["internal/strconv.uint64pow10", "math/bits.deBruijn32tab", "math/bits.deBruijn64tab"], apart := false, laid := [("math/bits.deBruijn32tab", laid_math_bits_deBruijn32tab), ("math/bits.deBruijn64tab", laid_math_bits_deBruijn64tab), ("internal/strconv.uint64pow10", laid_internal_strconv_uint64pow10)], narrowed := true }
def UrlPrintsUptoSaid : Prop := urlPrintsUptoRow.holds Tryd.pinned (OpenSpec.upto urlPrintsSpec)

/-- 'gatepostlaw.TokenGoes', WHERE WHAT IT READS IS OF BULK AT MOST 1048576: true; the input reads as it did. -/
def tokenGoesUptoRow : OpenClaim := { program := "ytdpmhkineanloaadoor", sum := "d3a3450871d7dcc41a6861beb1cf38284008056e8d0abe14a1a7c55b20bc8cbd", func := "gatepost/gatepostlaw.TokenGoes", spec := "tokenGoes", inPlace := ["internal/bytealg.IndexByteString", "internal/bytealg.IndexString"], named := ["unicode/utf8.first", "unicode/utf8.acceptRanges", "internal/bytealg.MaxLen"], apart := false, laid := [("unicode/utf8.acceptRanges", laid_unicode_utf8_acceptRanges), ("unicode/utf8.first", laid_unicode_utf8_first)], narrowed := true }
def TokenGoesUptoSaid : Prop := tokenGoesUptoRow.holds Tryd.pinned (OpenSpec.upto tokenGoesSpec)

/-- 'gatepostlaw.CorsMays', WHERE WHAT IT READS IS OF BULK AT MOST 1048576: true; the input reads as it did. -/
def corsMaysUptoRow : OpenClaim := { program := "ytdpmhkineanloaadoor", sum := "d3a3450871d7dcc41a6861beb1cf38284008056e8d0abe14a1a7c55b20bc8cbd", func := "gatepost/gatepostlaw.CorsMays", spec := "corsMays", inPlace := ["internal/abi.NoEscape", "internal/bytealg.MakeNoZero"], named := ["internal/strconv.uint64pow10", "math/bits.deBruijn32tab", "math/bits.deBruijn64tab"], apart := false, laid := [("math/bits.deBruijn32tab", laid_math_bits_deBruijn32tab), ("math/bits.deBruijn64tab", laid_math_bits_deBruijn64tab), ("internal/strconv.uint64pow10", laid_internal_strconv_uint64pow10)], narrowed := true }
def CorsMaysUptoSaid : Prop := corsMaysUptoRow.holds Tryd.pinned (OpenSpec.upto corsMaysSpec)

/-- 'gatepostlaw.FetchMethods', WHERE WHAT IT READS IS OF BULK AT MOST 1048576: true; the input reads as it did. -/
def fetchMethodsUptoRow : OpenClaim := { program := "ytdpmhkineanloaadoor", sum := "d3a3450871d7dcc41a6861beb1cf38284008056e8d0abe14a1a7c55b20bc8cbd", func := "gatepost/gatepostlaw.FetchMethods", spec := "fetchMethods", inPlace := ["internal/abi.NoEscape", "internal/bytealg.MakeNoZero"], unfollowed := true, recurses := true, named := ["unicode/utf8.first", "unicode/utf8.acceptRanges", "unicode.CaseRanges"], apart := false, laid := [("unicode/utf8.acceptRanges", laid_unicode_utf8_acceptRanges), ("unicode.CaseRanges", laid_unicode_CaseRanges), ("unicode/utf8.first", laid_unicode_utf8_first)], narrowed := true }
def FetchMethodsUptoSaid : Prop := fetchMethodsUptoRow.holds Tryd.pinned (OpenSpec.upto fetchMethodsSpec)

/-- 'gatepostlaw.UrlCleans', WHERE WHAT IT READS IS OF BULK AT MOST 1048576: true; the input reads as it did. -/
def urlCleansUptoRow : OpenClaim := { program := "ytdpmhkineanloaadoor", sum := "d3a3450871d7dcc41a6861beb1cf38284008056e8d0abe14a1a7c55b20bc8cbd", func := "gatepost/gatepostlaw.UrlCleans", spec := "urlCleans", inPlace := ["internal/bytealg.CountString", "internal/bytealg.IndexByteString", "internal/bytealg.IndexString", "internal/abi.NoEscape", "internal/bytealg.MakeNoZero"], named := ["unicode/utf8.first", "unicode/utf8.acceptRanges", "internal/bytealg.MaxLen"], apart := false, laid := [("unicode/utf8.acceptRanges", laid_unicode_utf8_acceptRanges), ("unicode/utf8.first", laid_unicode_utf8_first)], narrowed := true }
def UrlCleansUptoSaid : Prop := urlCleansUptoRow.holds Tryd.pinned (OpenSpec.upto urlCleansSpec)

/-- 'gatepostlaw.ProofCounts', WHERE WHAT IT READS IS OF BULK AT MOST 1048576: true; the input reads as it did. -/
def proofCountsUptoRow : OpenClaim := { program := "ytdpmhkineanloaadoor", sum := "d3a3450871d7dcc41a6861beb1cf38284008056e8d0abe14a1a7c55b20bc8cbd", func := "gatepost/gatepostlaw.ProofCounts", spec := "proofCounts", inPlace := ["internal/abi.NoEscape", "internal/bytealg.MakeNoZero"], named := ["internal/strconv.uint64pow10", "math/bits.deBruijn32tab", "math/bits.deBruijn64tab"], apart := false, laid := [("math/bits.deBruijn32tab", laid_math_bits_deBruijn32tab), ("math/bits.deBruijn64tab", laid_math_bits_deBruijn64tab), ("internal/strconv.uint64pow10", laid_internal_strconv_uint64pow10)], narrowed := true }
def ProofCountsUptoSaid : Prop := proofCountsUptoRow.holds Tryd.pinned (OpenSpec.upto proofCountsSpec)

/-- 'gatepostlaw.BankKeeps', WHERE WHAT IT READS IS OF BULK AT MOST 1048576: true; the input reads as it did. -/
def bankKeepsUptoRow : OpenClaim := { program := "ytdpmhkineanloaadoor", sum := "d3a3450871d7dcc41a6861beb1cf38284008056e8d0abe14a1a7c55b20bc8cbd", func := "gatepost/gatepostlaw.BankKeeps", spec := "bankKeeps", inPlace := ["internal/reflectlite.ValueOf", "(internal/reflectlite.Value).Type", "(internal/reflectlite.Value).IsNil", "internal/reflectlite.TypeOf", "(internal/reflectlite.Value).Elem", "(internal/reflectlite.Value).Set"], unfollowed := true, recurses := true, named := ["errors.errorType"], apart := false, laid := [("errors.errorType", laid_errors_errorType)], narrowed := true }
def BankKeepsUptoSaid : Prop := bankKeepsUptoRow.holds Tryd.pinned (OpenSpec.upto bankKeepsSpec)

/-- 'gatepostlaw.CorsAges', WHERE WHAT IT READS IS OF BULK AT MOST 1048576: true; the input reads as it did. -/
def corsAgesUptoRow : OpenClaim := { program := "ytdpmhkineanloaadoor", sum := "d3a3450871d7dcc41a6861beb1cf38284008056e8d0abe14a1a7c55b20bc8cbd", func := "gatepost/gatepostlaw.CorsAges", spec := "corsAges", inPlace := ["internal/abi.NoEscape", "internal/bytealg.MakeNoZero", "internal/bytealg.IndexByteString", "internal/bytealg.IndexString"], named := ["unicode/utf8.first", "unicode/utf8.acceptRanges", "internal/bytealg.MaxLen"], apart := false, laid := [("unicode/utf8.acceptRanges", laid_unicode_utf8_acceptRanges), ("unicode/utf8.first", laid_unicode_utf8_first)], narrowed := true }
def CorsAgesUptoSaid : Prop := corsAgesUptoRow.holds Tryd.pinned (OpenSpec.upto corsAgesSpec)

/-- 'gatepostlaw.CodingUnhex', WHERE WHAT IT READS IS OF BULK AT MOST 1048576: true; the input reads as it did. -/
def codingUnhexUptoRow : OpenClaim := { program := "ytdpmhkineanloaadoor", sum := "d3a3450871d7dcc41a6861beb1cf38284008056e8d0abe14a1a7c55b20bc8cbd", func := "gatepost/gatepostlaw.CodingUnhex", spec := "codingUnhex", inPlace := ["internal/bytealg.IndexByteString", "internal/abi.NoEscape", "internal/reflectlite.ValueOf", "(internal/reflectlite.Value).Type", "(internal/reflectlite.Value).IsNil", "internal/reflectlite.TypeOf", "(internal/reflectlite.Value).Elem", "(internal/reflectlite.Value).Set"], unfollowed := true, recurses := true, named := ["internal/strconv.uint64pow10", "math/bits.deBruijn32tab", "math/bits.deBruijn64tab", "errors.errorType"], apart := false, laid := [("math/bits.deBruijn32tab", laid_math_bits_deBruijn32tab), ("math/bits.deBruijn64tab", laid_math_bits_deBruijn64tab), ("internal/strconv.uint64pow10", laid_internal_strconv_uint64pow10), ("errors.errorType", laid_errors_errorType)], narrowed := true }
def CodingUnhexUptoSaid : Prop := codingUnhexUptoRow.holds Tryd.pinned (OpenSpec.upto codingUnhexSpec)

/-- 'gatepostlaw.UrlRights', WHERE WHAT IT READS IS OF BULK AT MOST 1048576: true; the input reads as it did. -/
def urlRightsUptoRow : OpenClaim := { program := "ytdpmhkineanloaadoor", sum := "d3a3450871d7dcc41a6861beb1cf38284008056e8d0abe14a1a7c55b20bc8cbd", func := "gatepost/gatepostlaw.UrlRights", spec := "urlRights", inPlace := ["internal/bytealg.IndexByteString", "internal/bytealg.IndexString"], unfollowed := true, recurses := true, named := ["unicode/utf8.first", "unicode/utf8.acceptRanges", "internal/bytealg.MaxLen"], apart := false, laid := [("unicode/utf8.acceptRanges", laid_unicode_utf8_acceptRanges), ("unicode/utf8.first", laid_unicode_utf8_first)], narrowed := true }
def UrlRightsUptoSaid : Prop := urlRightsUptoRow.holds Tryd.pinned (OpenSpec.upto urlRightsSpec)

/-- 'gatepostlaw.TokenSeconds', WHERE WHAT IT READS IS OF BULK AT MOST 1048576: true; the input reads as it did. -/
def tokenSecondsUptoRow : OpenClaim := { program := "ytdpmhkineanloaadoor", sum := "d3a3450871d7dcc41a6861beb1cf38284008056e8d0abe14a1a7c55b20bc8cbd", func := "gatepost/gatepostlaw.TokenSeconds", spec := "tokenSeconds", inPlace := ["internal/bytealg.IndexByteString", "internal/bytealg.IndexString", "internal/reflectlite.ValueOf", "(internal/reflectlite.Value).Type", "(internal/reflectlite.Value).IsNil", "internal/reflectlite.TypeOf", "(internal/reflectlite.Value).Elem", "(internal/reflectlite.Value).Set"], unfollowed := true, recurses := true, named := ["unicode/utf8.first", "unicode/utf8.acceptRanges", "errors.errorType", "internal/bytealg.MaxLen"], apart := false, laid := [("unicode/utf8.acceptRanges", laid_unicode_utf8_acceptRanges), ("errors.errorType", laid_errors_errorType), ("unicode/utf8.first", laid_unicode_utf8_first)], narrowed := true }
def TokenSecondsUptoSaid : Prop := tokenSecondsUptoRow.holds Tryd.pinned (OpenSpec.upto tokenSecondsSpec)

end Rows
end Go.Proofs.YtdpmhkineanloaaDoor
