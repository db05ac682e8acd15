/- strconv.Itoa: a number's decimal numeral, in a world that holds the table of tens. -/
import Derived.Test.YtinlahahbhpppaaFound
import Derived.Test.YtinlahahbhpppaaShelf
import Derived.Test.YtinlahahbhpppaaRows
import Derived.Lib.LaidTab
import Derived.LaidLaws
import Derived.WalkSmall
import Derived.Stop.Joined
import Derived.BigQuiet
import Derived.Lib.ItoaNum
import Derived.Sort.Grow
namespace Go.Proofs.Ytinlahahbhpppaa
open Go.RowKit

def Pow (w : World) : Prop := Lib.TabIs Try.prog w "internal/strconv.uint64pow10" .u64 Lib.pow10Tab
theorem below_grow (w : World) (os : Array Obj) : Below w.heap.size w (Go.Sort.grow w os) :=
  ⟨rfl, rfl, rfl, by simp [Go.Sort.grow], fun k hk => by simp only [Go.Sort.grow]; rw [Array.getElem?_append_left hk]⟩
end Go.Proofs.Ytinlahahbhpppaa
