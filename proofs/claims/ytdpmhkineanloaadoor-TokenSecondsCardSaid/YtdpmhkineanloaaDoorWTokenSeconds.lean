/- TokenSeconds: token.Seconds returns what the reference's Seconds returns, for any text: the walk of the statement. -/
import Derived.Test.YtdpmhkineanloaaDoorSeconds
import Derived.Test.YtdpmhkineanloaaDoorPlace
import Derived.OpenShut
namespace Go.Proofs.YtdpmhkineanloaaDoor.lawTokenSeconds
open Go.ChangeShapes Go.WideShapes Go.ChangeAt Go.RowKit Go.WideElems

set_option maxRecDepth 100000 in
theorem walk (W : World) (_hsh : W.ShapedOpen Tryd.prog) (hg : ErrType W) (s : ByteArray) (_hs : s.size ≤ reachBytes) :
    Calls Tryd.prog 14 #[.string s] W fun e w' => e = .returned (.bool true) ∧ Below W.heap.size W w' := by
  simp only [reachBytes] at _hs
  by_cases h : 300 < s.size
  · go_enter Tryd.func14, Tryd.ntmps14
    go_wp2
    go_ret
    exact ⟨rfl, Below.refl _ _⟩
  · have r1 := refSeconds s W (by omega)
    have r2 := tokenSeconds s W (by omega)
    unfold secsRes at r1 r2
    cases hu : secsOk s.data.toList with
    | false =>
      rw [hu] at r1 r2
      clear hu
      go_enter Tryd.func14, Tryd.ntmps14
      go_wp2_with fail
      refine r1.mono ?_
      rintro e w1 ⟨rfl, rfl⟩
      go_wp2_with fail
      refine r2.mono ?_
      rintro e w2 ⟨rfl, hB2⟩
      go_wp2_with fail
      refine (bare_is 3 (hg.later hB2) (ErrIs.num _ 3)).mono ?_
      rintro e w3 ⟨rfl, hB4⟩
      have hB5 := hB2.then (Nat.le_refl _) hB4
      go_wp2
      go_ret
      exact ⟨rfl, hB5⟩
    | true =>
      rw [hu] at r1 r2
      clear hu
      go_enter Tryd.func14, Tryd.ntmps14
      go_wp2_with fail
      refine r1.mono ?_
      rintro e w1 ⟨rfl, rfl⟩
      go_wp2_with fail
      refine r2.mono ?_
      rintro e w2 ⟨rfl, hB2⟩
      go_wp2_with fail
      refine (bare_is 0 (hg.later hB2) (ErrIs.none _)).mono ?_
      rintro e w3 ⟨rfl, hB4⟩
      have hB5 := hB2.then (Nat.le_refl _) hB4
      go_wp2
      go_ret
      exact ⟨rfl, hB5⟩
end Go.Proofs.YtdpmhkineanloaaDoor.lawTokenSeconds
