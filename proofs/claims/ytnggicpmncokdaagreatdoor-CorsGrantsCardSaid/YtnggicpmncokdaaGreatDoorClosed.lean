/- The closed facts that run over the seat's whole type table, once for all its statements. -/
import Derived.Test.YtnggicpmncokdaaGreatDoorRows
import Derived.Test.YtnggicpmncokdaaGreatDoorChecked
import Derived.Test.YtnggicpmncokdaaGreatDoorTie
import Derived.ClosedOfChecked
import Derived.KernelRfl
namespace Go.Proofs.YtnggicpmncokdaaGreatDoor
theorem tableFacts : laidOutB Tryz.pinned.checked.prog = true ∧ mapsRowed Tryz.pinned.checked.prog = true ∧ Tryz.pinned.checked.prog.plainKeys = true :=
  Go.ClosedOfChecked.closed_of_checked Tryz.pinned.checked (by kernel_rfl) (by kernel_rfl) (by kernel_rfl)
end Go.Proofs.YtnggicpmncokdaaGreatDoor
