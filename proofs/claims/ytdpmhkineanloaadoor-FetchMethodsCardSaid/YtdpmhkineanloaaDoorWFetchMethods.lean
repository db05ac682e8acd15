/- FetchMethods: fetch.Method and Simple return what the reference's return, for any method: the walk of the statement. -/
import Derived.Test.YtdpmhkineanloaaDoorMethod
import Derived.OpenShut
namespace Go.Proofs.YtdpmhkineanloaaDoor.lawFetchMethods
open Go.ChangeShapes Go.WideShapes Go.ChangeAt Go.RowKit Go.WideElems

set_option maxRecDepth 100000 in
theorem walk (W : World) (_hsh : W.ShapedOpen Tryd.prog) (s : ByteArray) (_hs : s.size ≤ reachBytes) :
    Calls Tryd.prog 7 #[.string s] W fun e w' => e = .returned (.bool true) ∧ Below W.heap.size W w' := by
  simp only [reachBytes] at _hs
  by_cases h : 100 < s.size
  · go_enter Tryd.func7, Tryd.ntmps7
    go_wp2
    go_ret
    exact ⟨rfl, Below.refl _ _⟩
  · have c1 := fun w => fetchMethod s w (by unfold maxLen; omega)
    have c2 := fun w => refMethod s w (by unfold maxLen; omega)
    have c3 := fetchSimple s
    have c4 := refSimple s
    generalize methodOf s = M at c1 c2
    generalize simpleB s = b at c3 c4
    go_enter Tryd.func7, Tryd.ntmps7
    go_wp2_with fail
    refine (c1 _).mono ?_
    rintro e w1 ⟨rfl, hB1⟩
    go_wp2_with fail
    refine (c2 _).mono ?_
    rintro e w2 ⟨rfl, hB2⟩
    have hB3 := hB1.then (Nat.le_refl _) hB2
    go_wp2_with fail
    refine (c3 _).mono ?_
    rintro e w3 ⟨rfl, rfl⟩
    go_wp2_with fail
    refine (c4 _).mono ?_
    rintro e w3 ⟨rfl, rfl⟩
    go_wp2
    go_ret
    exact ⟨ret_bool (by simp), hB3⟩
end Go.Proofs.YtdpmhkineanloaaDoor.lawFetchMethods
