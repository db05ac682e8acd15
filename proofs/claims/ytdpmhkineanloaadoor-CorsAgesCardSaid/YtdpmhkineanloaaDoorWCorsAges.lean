/- CorsAges: cors.Age returns what the reference's Age returns, for any few short fields: the walk of the statement. -/
import Derived.Test.YtdpmhkineanloaaDoorAge
import Derived.OpenShut
namespace Go.Proofs.YtdpmhkineanloaaDoor.lawCorsAges
open Go.ChangeShapes Go.WideShapes Go.ChangeAt Go.RowKit Go.WideElems

set_option maxRecDepth 100000 in
theorem walk (W : World) (_hsh : W.ShapedOpen Tryd.prog) (a : Option Addr) (len cap : Nat) (hR : Rd Tryd.prog W 44 [.slice a len cap]) :
    Calls Tryd.prog 11 #[.slice a len cap] W fun e w' => e = .returned (.bool true) ∧ Below W.heap.size W w' := by
  obtain ⟨ps, rfl, hP, hz, hb, _⟩ := pars_open hR
  clear hR _hsh
  have hO := headsReq_ok (cap := cap) hb hP hz
  have hL := large_says _ _ hO
  cases hlb : largeB (headsReq a cap ps)
  · have hS := small_of hlb
    rw [hlb] at hL
    have HL := Lib.hid hL
    clear hL hlb hO
    have hfew : ps.length ≤ 45 := hS.few
    have hM : ∀ p ∈ ps, p.2.size ≤ 300 := fun p hp => by have := hS.short p hp; omega
    clear hS
    go_enter Tryd.func11, Tryd.ntmps11
    go_wp2_with fail
    refine HL.out.mono ?_
    rintro e w1 ⟨rfl, hB1⟩
    go_wp2_with fail
    refine (corsAge a cap ps 300 _ (hP.later hB1) hz.sz (by omega) hM (by omega)).mono ?_
    rintro e w2 ⟨rfl, hB2⟩
    have hB3 : Below W.heap.size W w2 := hB1.then (Nat.le_refl _) hB2
    go_wp2_with fail
    refine (refAge a cap ps 300 _ (hP.later hB3) hz.sz (by omega) hM (by omega) (by omega)).mono ?_
    rintro e w3 ⟨rfl, hB4⟩
    have hB5 := hB3.then (Nat.le_refl _) hB4
    go_wp2
    go_ret
    exact ⟨ret_bool (by simp), hB5⟩
  · rw [hlb] at hL
    have HL := Lib.hid hL
    clear hL hlb hO
    go_enter Tryd.func11, Tryd.ntmps11
    go_wp2_with fail
    refine HL.out.mono ?_
    rintro e w1 ⟨rfl, hB1⟩
    go_wp2
    go_ret
    exact ⟨rfl, hB1⟩
end Go.Proofs.YtdpmhkineanloaaDoor.lawCorsAges
