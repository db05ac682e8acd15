/- TokenValues: the law's walk. -/
import Derived.Test.YtnmeifobikemlaaDoorValue
namespace Go.Proofs.YtnmeifobikemlaaDoor.lawTokenValues
open Go.RowKit
theorem walk (W : World) (_hsh : W.ShapedOpen Tryd.prog) (hg : ErrType W) (s : ByteArray) (_ : s.size ≤ reachBytes) :
    Calls Tryd.prog 4 #[.string s] W fun e w' => e = .returned (.bool true) ∧ Below W.heap.size W w' := values_walk s W hg
end Go.Proofs.YtnmeifobikemlaaDoor.lawTokenValues
