/- ProofCounts: proof.Count returns what the reference's Count returns, for any number: the walk of the statement. -/
import Derived.Test.YtdpmhkineanloaaDoorCount
import Derived.OpenShut
namespace Go.Proofs.YtdpmhkineanloaaDoor.lawProofCounts
open Go.ChangeShapes Go.WideShapes Go.ChangeAt Go.RowKit Go.WideElems

set_option maxRecDepth 100000 in
theorem walk (W : World) (_hsh : W.ShapedOpen Tryd.prog) (hd : Deb W) (n : Int) (hn : (Lit.int .i64 n).wf = true) :
    Calls Tryd.prog 9 #[.int .i64 n] W fun e w' => e = .returned (.bool true) ∧ Below W.heap.size W w' := by
  obtain ⟨_, h1⟩ := bounds_i64 hn
  clear hn
  by_cases h : n < 0
  · go_enter Tryd.func9, Tryd.ntmps9
    go_wp2
    go_ret
    exact ⟨rfl, Below.refl _ _⟩
  · obtain ⟨m, rfl⟩ := Int.eq_ofNat_of_zero_le (show 0 ≤ n by omega)
    go_enter Tryd.func9, Tryd.ntmps9
    go_wp2_with fail
    refine (proofCount m (by omega) W hd).mono ?_
    rintro e w1 ⟨rfl, hB1⟩
    go_wp2_with fail
    refine (refCount m (by omega) w1 (hd.later hB1)).mono ?_
    rintro e w2 ⟨rfl, hB2⟩
    have hB3 := hB1.then (Nat.le_refl _) hB2
    go_wp2
    go_ret
    exact ⟨rfl, hB3⟩
end Go.Proofs.YtdpmhkineanloaaDoor.lawProofCounts
