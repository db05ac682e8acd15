/- CodingBase: coding.Base64 returns what the reference's Base64 returns, for any bytes: the walk of the statement. -/
import Derived.Test.YtmpgamnpmgedkaaDoorB64W
import Derived.Test.YtmpgamnpmgedkaaDoorB64R
import Derived.OpenShut
namespace Go.Proofs.YtmpgamnpmgedkaaDoor.lawCodingBase
open Go.ChangeShapes Go.WideShapes Go.ChangeAt Go.RowKit Go.WideElems

set_option maxRecDepth 100000 in
theorem walk (W : World) (_hsh : W.ShapedOpen Tryd.prog) (hd : Deb W) (s : ByteArray) (_hs : s.size ≤ reachBytes) :
    Calls Tryd.prog 3 #[.string s] W fun e w' => e = .returned (.bool true) ∧ Below W.heap.size W w' := by
  simp only [reachBytes] at _hs
  by_cases h : 300 < s.size
  · go_enter Tryd.func3, Tryd.ntmps3
    go_wp2
    go_ret
    exact ⟨rfl, Below.refl _ _⟩
  · go_enter Tryd.func3, Tryd.ntmps3
    go_wp2_with fail
    refine (codingBase64 s W (by omega)).mono ?_
    rintro e w1 ⟨rfl, hB1⟩
    go_wp2_with fail
    refine (refBase64 s w1 (by omega) (hd.later hB1)).mono ?_
    rintro e w2 ⟨rfl, hB2⟩
    have hB3 := hB1.then (Nat.le_refl _) hB2
    go_wp2
    go_ret
    exact ⟨rfl, hB3⟩
end Go.Proofs.YtmpgamnpmgedkaaDoor.lawCodingBase
