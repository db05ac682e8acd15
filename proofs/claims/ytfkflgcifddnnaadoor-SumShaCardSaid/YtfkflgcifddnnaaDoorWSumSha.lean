/- SumSha: sum.SHA256 returns what the reference's SHA256 returns, for any text: the walk of the statement. -/
import Derived.Test.YtfkflgcifddnnaaDoorSumSX
import Derived.OpenShut
namespace Go.Proofs.YtfkflgcifddnnaaDoor.lawSumSha
open Go.ChangeShapes Go.WideShapes Go.ChangeAt Go.RowKit Go.WideElems

set_option maxRecDepth 100000 in
theorem walk (W : World) (_hsh : W.ShapedOpen Tryd.prog) (hT : ShaT W) (hd : Deb W) (s : ByteArray) (_hs : s.size ≤ reachBytes) :
    Calls Tryd.prog 4 #[.string s] W fun e w' => e = .returned (.bool true) ∧ Below W.heap.size W w' := by
  simp only [reachBytes] at _hs
  by_cases h : 400 < s.size
  · have hb : decide ((400 : Int) < (s.size : Int)) = true := by simp; omega
    have hb2 : (400 : Int) < (s.size : Int) := by omega
    go_enter Tryd.func4, Tryd.ntmps4
    go_wp2
    go_ret
    exact ⟨rfl, Below.refl _ _⟩
  · have hb : decide ((400 : Int) < (s.size : Int)) = false := by simp; omega
    have hb2 : ¬ (400 : Int) < (s.size : Int) := by omega
    go_enter Tryd.func4, Tryd.ntmps4
    go_wp2_with fail
    refine (sumSHA_is s (by omega) W hT).mono ?_
    rintro e w1 ⟨rfl, hB1⟩
    go_wp2_with fail
    refine (refSHA s (by omega) w1 (hT.later hB1) (hd.later hB1)).mono ?_
    rintro e w2 ⟨rfl, hB2⟩
    have hB3 := hB1.then (Nat.le_refl _) hB2
    rw [show (eightL (shaH s.data.toList)).flatMap (digitsN false) = shaL s.data.toList from rfl]
    go_wp2
    go_ret
    exact ⟨rfl, hB3⟩
end Go.Proofs.YtfkflgcifddnnaaDoor.lawSumSha
