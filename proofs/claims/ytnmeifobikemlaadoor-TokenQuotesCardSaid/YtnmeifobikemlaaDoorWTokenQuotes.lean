/- TokenQuotes: the law's walk. -/
import Derived.Test.YtnmeifobikemlaaDoorQuote
namespace Go.Proofs.YtnmeifobikemlaaDoor.lawTokenQuotes
open Go.RowKit
theorem walk (W : World) (_hsh : W.ShapedOpen Tryd.prog) (hg : ErrType W) (s : ByteArray) (_ : s.size ≤ reachBytes) :
    Calls Tryd.prog 3 #[.string s] W fun e w' => e = .returned (.bool true) ∧ Below W.heap.size W w' := quotes_walk s W hg
end Go.Proofs.YtnmeifobikemlaaDoor.lawTokenQuotes
