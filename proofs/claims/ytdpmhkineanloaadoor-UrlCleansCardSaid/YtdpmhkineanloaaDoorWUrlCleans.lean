/- UrlCleans: url.Clean returns what the reference's Clean returns, for any path: the walk of the statement. -/
import Derived.Test.YtdpmhkineanloaaDoorClean
import Derived.OpenShut
namespace Go.Proofs.YtdpmhkineanloaaDoor.lawUrlCleans
open Go.ChangeShapes Go.WideShapes Go.ChangeAt Go.RowKit Go.WideElems

set_option maxRecDepth 100000 in
theorem walk (W : World) (hsh : W.ShapedOpen Tryd.prog) (s : ByteArray) (_hs : s.size ≤ reachBytes) :
    Calls Tryd.prog 8 #[.string s] W fun e w' => e = .returned (.bool true) ∧ Below W.heap.size W w' := by
  simp only [reachBytes] at _hs
  have hM := maxL_of hsh
  clear hsh
  by_cases h : 300 < s.size
  · go_enter Tryd.func8, Tryd.ntmps8
    go_wp2
    go_ret
    exact ⟨rfl, Below.refl _ _⟩
  · have c1 := urlClean s W hM (by omega)
    have c2 := fun w (hB : Below W.heap.size W w) => refClean s w (hM.later hB) (by omega)
    generalize cleanB s = C at c1 c2
    have hM' := Lib.hid hM
    clear hM
    go_enter Tryd.func8, Tryd.ntmps8
    go_wp2_with fail
    refine c1.mono ?_
    rintro e w1 ⟨rfl, hB1⟩
    go_wp2_with fail
    refine (c2 w1 hB1).mono ?_
    rintro e w2 ⟨rfl, hB2⟩
    have hB3 := hB1.then (Nat.le_refl _) hB2
    go_wp2
    go_ret
    exact ⟨ret_bool (by simp), hB3⟩
end Go.Proofs.YtdpmhkineanloaaDoor.lawUrlCleans
