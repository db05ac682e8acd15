/- CorsGets: cors.Get returns what the reference's FieldGet returns, for any few short fields and any short name: the walk of the statement. -/
import Derived.Test.YteflbehlgnfkfaaGet
namespace Go.Proofs.Yteflbehlgnfkfaa.lawCorsGets
open Go.ChangeShapes Go.WideShapes Go.ChangeAt Go.RowKit Go.WideElems

set_option maxRecDepth 100000 in
set_option maxHeartbeats 800000 in
theorem walk (W : World) (_hsh : W.ShapedOpen Try.prog) (a : Option Addr) (len cap : Nat) (hR : Rd Try.prog W 27 [.slice a len cap]) (name : ByteArray) (hn : name.size ≤ reachBytes) :
    Calls Try.prog 10 #[.slice a len cap, .string name] W fun e w' => e = .returned (.bool true) ∧ Below W.heap.size W w' := by
  obtain ⟨ps, rfl, hP, hz, hb, _⟩ := pars_open hR
  clear hR _hsh
  have hn' := reach_max hn
  simp only [reachBytes] at hn
  have hO := headsReq_ok (cap := cap) hb hP hz
  have hL := large_says _ _ hO
  cases hlb : largeB (headsReq a cap ps)
  · have hS := small_of hlb
    rw [hlb] at hL
    have HL := Lib.hid hL
    clear hL hlb hO
    have hfew : ps.length ≤ 45 := hS.few
    have hM : ∀ p ∈ ps, p.2.size ≤ 300 := fun p hp => by have := hS.short p hp; omega
    clear hS
    by_cases h100 : 100 < name.size
    · go_enter Try.func10, Try.ntmps10
      go_wp2_with fail
      refine HL.out.mono ?_
      rintro e w1 ⟨rfl, hB1⟩
      go_wp2
      go_ret
      exact ⟨rfl, hB1⟩
    · go_enter Try.func10, Try.ntmps10
      go_wp2_with fail
      refine HL.out.mono ?_
      rintro e w1 ⟨rfl, hB1⟩
      go_wp2_with fail
      refine (refFieldGet a cap ps name 300 _ (hP.later hB1) hz.sz (by omega) hn' hM (by omega) (by omega)).mono ?_
      rintro e w2 ⟨rfl, hB2⟩
      have hB3 : Below W.heap.size W w2 := hB1.then (Nat.le_refl _) hB2
      go_wp2_with fail
      refine (corsGet a cap ps name 300 _ (hP.later hB3) hz.sz (by omega) hn' hM (by omega)).mono ?_
      rintro e w3 ⟨rfl, hB4⟩
      go_wp2
      go_ret
      exact ⟨ret_bool (by simp), hB3.then (Nat.le_refl _) hB4⟩
  · rw [hlb] at hL
    have HL := Lib.hid hL
    clear hL hlb hO
    go_enter Try.func10, Try.ntmps10
    go_wp2_with fail
    refine HL.out.mono ?_
    rintro e w1 ⟨rfl, hB1⟩
    go_wp2
    go_ret
    exact ⟨rfl, hB1⟩
end Go.Proofs.Yteflbehlgnfkfaa.lawCorsGets
