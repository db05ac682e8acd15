/- url.Right: whether an origin may be one. -/
import Derived.Test.YtinlahahbhpppaaHost
import Derived.Test.YtinlahahbhpppaaOrigin
namespace Go.Proofs.Ytinlahahbhpppaa
open Go.RowKit
end Go.Proofs.Ytinlahahbhpppaa
