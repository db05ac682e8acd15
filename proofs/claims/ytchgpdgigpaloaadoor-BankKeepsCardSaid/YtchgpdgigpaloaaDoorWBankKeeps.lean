/- BankKeeps: after any operations a Bank is that of the reference: the walk of the statement, out of its cases. -/
import Derived.Test.YtchgpdgigpaloaaDoorWBkA
import Derived.Test.YtchgpdgigpaloaaDoorWBk7
namespace Go.Proofs.YtchgpdgigpaloaaDoor.lawBankKeeps
set_option linter.unusedSimpArgs false
open Go.ChangeShapes Go.WideShapes Go.ChangeAt Go.RowKit Go.WideElems Go.Deep
set_option maxRecDepth 100000 in
set_option maxHeartbeats 20000000 in
theorem walk (W : World) (_hsh : W.ShapedOpen Tryd.prog) (hErr : ErrType W) (a : Option Addr) (len cap : Nat) (hR : Rd Tryd.prog W 22 [.slice a len cap]) :
    Calls Tryd.prog 3 #[.slice a len cap] W fun e w' => e = .returned (.bool true) ∧ Below W.heap.size W w' := by
  obtain ⟨os, rfl, hE, hO, hl⟩ := bkops_open hR
  clear hR
  by_cases h40 : 40 < os.length
  · go_enter Tryd.func3, Tryd.ntmps3
    go_wp2
    go_ret
    exact ⟨rfl, Below.refl _ _⟩
  exact (split W cap os hl h40).join ⟨case0 W cap os hl h40⟩ ⟨case1 W cap os hl h40⟩ ⟨case2 W cap os hl h40⟩ ⟨case3 W cap os hl h40⟩ ⟨case4 W cap os hl h40⟩ ⟨case5 W cap os hl h40⟩ ⟨case6 W cap os hl h40⟩ ⟨case7 W cap os hl h40⟩ ⟨case8 W cap os hl h40⟩ hErr hO a hE
end Go.Proofs.YtchgpdgigpaloaaDoor.lawBankKeeps
