/- The closed facts that run over the seat's whole type table, once for all its statements. -/
import Derived.Test.YtchgpdgigpaloaaDoorRows
import Derived.Test.YtchgpdgigpaloaaDoorChecked
import Derived.Test.YtchgpdgigpaloaaDoorTie
import Derived.ClosedOfChecked
import Derived.KernelRfl
namespace Go.Proofs.YtchgpdgigpaloaaDoor
theorem tableFacts : laidOutB Tryd.pinned.checked.prog = true ∧ mapsRowed Tryd.pinned.checked.prog = true ∧ Tryd.pinned.checked.prog.plainKeys = true :=
  Go.ClosedOfChecked.closed_of_checked Tryd.pinned.checked (by kernel_rfl) (by kernel_rfl) (by kernel_rfl)
end Go.Proofs.YtchgpdgigpaloaaDoor
