/- The closed facts that run over the seat's whole type table, once for all its statements. -/
import Derived.Test.YtnfcdccdmlodeaaGreatDoorRows
import Derived.Test.YtnfcdccdmlodeaaGreatDoorChecked
import Derived.Test.YtnfcdccdmlodeaaGreatDoorTie
import Derived.ClosedOfChecked
import Derived.KernelRfl
namespace Go.Proofs.YtnfcdccdmlodeaaGreatDoor
theorem tableFacts : laidOutB Tryz.pinned.checked.prog = true ∧ mapsRowed Tryz.pinned.checked.prog = true ∧ Tryz.pinned.checked.prog.plainKeys = true :=
  Go.ClosedOfChecked.closed_of_checked Tryz.pinned.checked (by kernel_rfl) (by kernel_rfl) (by kernel_rfl)
end Go.Proofs.YtnfcdccdmlodeaaGreatDoor
