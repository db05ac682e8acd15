/- UrlDirs: url.Dir and url.Within return what the reference's Dir and a comparison return, for any two texts: the walk of the statement. -/
import Derived.Test.YteflbehlgnfkfaaDir
namespace Go.Proofs.Yteflbehlgnfkfaa.lawUrlDirs
open Go.ChangeShapes Go.WideShapes Go.ChangeAt Go.RowKit Go.WideElems

theorem walk (W : World) (_hsh : W.ShapedOpen Try.prog) (s : ByteArray) (hs : s.size ≤ reachBytes) (p : ByteArray) (hp : p.size ≤ reachBytes) :
    Calls Try.prog 7 #[.string s, .string p] W fun e w' => e = .returned (.bool true) ∧ Below W.heap.size W w' := by
  clear _hsh
  have hs' := hs
  simp only [reachBytes] at hs hp
  by_cases h1 : 300 < s.size
  · go_enter Try.func7, Try.ntmps7
    go_wp2
    go_ret
    exact ⟨rfl, Below.refl _ _⟩
  by_cases h2 : 300 < p.size
  · go_enter Try.func7, Try.ntmps7
    go_wp2
    go_ret
    exact ⟨rfl, Below.refl _ _⟩
  have hpre := Lib.hid (Lib.hasPrefix_raw s p)
  by_cases h3 : p.size ≤ s.size
  all_goals
    go_enter Try.func7, Try.ntmps7
    go_wp2_with fail
    refine (urlDir _ _ hs').mono ?_
    rintro e w1 ⟨rfl, rfl⟩
    go_wp2_with fail
    refine (refDir _ _ hs').mono ?_
    rintro e w1 ⟨rfl, rfl⟩
    go_wp2_with fail
    refine (urlWithin _ _ _).mono ?_
    rintro e w1 ⟨rfl, rfl⟩
    go_wp2
    go_ret
    refine ⟨ret_bool ?_, Below.refl _ _⟩
    rw [← hpre.out]
    simp [h3]
end Go.Proofs.Yteflbehlgnfkfaa.lawUrlDirs
