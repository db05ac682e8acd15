/- CodingUnbase: coding.Unbase64 returns what the reference's Unbase64 returns, for any text: the walk of the statement. -/
import Derived.Test.YtdlhihfjigcimaaDoorUnb64R
import Derived.OpenShut
namespace Go.Proofs.YtdlhihfjigcimaaDoor.lawCodingUnbase
open Go.ChangeShapes Go.WideShapes Go.ChangeAt Go.RowKit Go.WideElems

set_option maxRecDepth 100000 in
theorem walk (W : World) (_hsh : W.ShapedOpen Tryd.prog) (hd : Deb W) (hg : ErrType W) (s : ByteArray) (_hs : s.size ≤ reachBytes) :
    Calls Tryd.prog 5 #[.string s] W fun e w' => e = .returned (.bool true) ∧ Below W.heap.size W w' := by
  simp only [reachBytes] at _hs
  by_cases h : 300 < s.size
  · go_enter Tryd.func5, Tryd.ntmps5
    go_wp2
    go_ret
    exact ⟨rfl, Below.refl _ _⟩
  · have r1 := refUnbase64 s W (by omega) hd
    have r2 := fun w => codingUnbase64 s w (by omega)
    unfold unbRV at r1; unfold unbV at r2
    cases hu : unb s.data.toList with
    | none =>
      rw [hu] at r1 r2
      clear hu
      go_enter Tryd.func5, Tryd.ntmps5
      go_wp2_with fail
      refine r1.mono ?_
      rintro e w1 ⟨rfl, hB1⟩
      go_wp2_with fail
      refine (r2 w1).mono ?_
      rintro e w2 ⟨rfl, hB2⟩
      have hB3 := hB1.then (Nat.le_refl _) hB2
      go_wp2_with fail
      refine (bare_is 3 (hg.later hB3) (ErrIs.num _ 3)).mono ?_
      rintro e w3 ⟨rfl, hB4⟩
      have hB5 := hB3.then (Nat.le_refl _) hB4
      go_wp2
      go_ret
      exact ⟨rfl, hB5⟩
    | some l =>
      rw [hu] at r1 r2
      clear hu
      go_enter Tryd.func5, Tryd.ntmps5
      go_wp2_with fail
      refine r1.mono ?_
      rintro e w1 ⟨rfl, hB1⟩
      go_wp2_with fail
      refine (r2 w1).mono ?_
      rintro e w2 ⟨rfl, hB2⟩
      have hB3 := hB1.then (Nat.le_refl _) hB2
      go_wp2_with fail
      refine (bare_is 0 (hg.later hB3) (ErrIs.none _)).mono ?_
      rintro e w3 ⟨rfl, hB4⟩
      have hB5 := hB3.then (Nat.le_refl _) hB4
      go_wp2
      go_ret
      exact ⟨rfl, hB5⟩
end Go.Proofs.YtdlhihfjigcimaaDoor.lawCodingUnbase
