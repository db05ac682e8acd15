/- UrlOrigins: url.Origin finds what the reference's OriginParse finds: the walk of the statement. -/
import Derived.Test.YtigdlnjlmjhdnaaGreatDoorUrlR
import Derived.Test.YtigdlnjlmjhdnaaGreatDoorErrs
import Derived.Test.YtigdlnjlmjhdnaaGreatDoorReq
import Derived.OpenShut
namespace Go.Proofs.YtigdlnjlmjhdnaaGreatDoor.lawUrlOrigins
open Go.ChangeShapes Go.WideShapes Go.ChangeAt Go.RowKit Go.WideElems
set_option maxRecDepth 100000 in
set_option maxHeartbeats 1000000 in
theorem walk (W : World) (hsh : W.ShapedOpen Tryz.prog) (hg : ErrType W) (s : ByteArray) (_hs : s.size ≤ reachBytes) :
    Calls Tryz.prog 3 #[.string s] W fun e w' => e = .returned (.bool true) ∧ Below W.heap.size W w' := by
  have hM := maxL_of hsh
  clear hsh _hs
  go_enter Tryz.func3, Tryz.ntmps3
  by_cases hl : 200 < s.size
  · go_wp2
    go_ret
    exact ⟨rfl, Below.refl _ _⟩
  · cases hv : originP s.data.toList with
    | none =>
      have ho := refOrigin s W hM (by omega)
      have hu := fun w hM => urlOrigin s w hM (by omega)
      rw [orV_none hv] at ho
      simp only [orV_none hv] at hu
      go_wp2_with fail
      refine ho.mono ?_
      rintro e w1 ⟨rfl, hB1⟩
      have hBa := hB1.alloc hB1.size (Obj.cells #[.bool false, .string ⟨#[]⟩, .int .i64 0] 23)
      have hu1 := hu _ (hM.later hBa)
      go_wp2_with fail
      refine hu1.mono ?_
      rintro e w2 ⟨rfl, hB2⟩
      have hBb := (hBa.then (Nat.le_refl _) hB2)
      have hBc := hBb.alloc hBb.size (Obj.cells #[.bool false, .string ⟨#[]⟩, .int .i64 0] 23)
      have hbare := bare_is (3) (hg.later hBc) (ErrIs.num _ 3)
      have hsz : w1.heap.size + 1 ≤ w2.heap.size := by simpa using hB2.size
      have hP := ((by simpa using hB2 : Below (w1.heap.size + 1) (w1.alloc (Obj.cells #[.bool false, .string ⟨#[]⟩, .int .i64 0] 23)) w2).alloc (by omega) (Obj.cells #[.bool false, .string ⟨#[]⟩, .int .i64 0] 23))
      have hQ := Below.refl (w2.heap.size + 1) (w2.alloc (Obj.cells #[.bool false, .string ⟨#[]⟩, .int .i64 0] 23))
      clear ho hu hu1
      go_wp2_with fail
      refine hbare.mono ?_
      rintro e w3 ⟨rfl, hB3⟩
      have hP3 := hP.then (by first | (simp; done) | (simp; omega)) hB3
      have hQ3 := hQ.then (by simp) hB3
      have a0 := box_cell hP3 0 rfl
      have a1 := box_cell hP3 1 rfl
      have a2 := box_cell hP3 2 rfl
      have b0 := box_cell hQ3 0 rfl
      have b1 := box_cell hQ3 1 rfl
      have b2 := box_cell hQ3 2 rfl
      have hBd := hBc.then (Nat.le_refl _) hB3
      clear hP hQ hP3 hQ3 hbare
      go_wp2
      go_ret
      exact ⟨ret_bool (by simp), hBd⟩
    | some x =>
      obtain ⟨sec, h, n⟩ := x
      have ho := refOrigin s W hM (by omega)
      have hu := fun w hM => urlOrigin s w hM (by omega)
      rw [orV_some hv] at ho
      simp only [orV_some hv] at hu
      clear hv
      generalize (⟨h.toArray⟩ : ByteArray) = H at ho hu
      go_wp2_with fail
      refine ho.mono ?_
      rintro e w1 ⟨rfl, hB1⟩
      have hBa := hB1.alloc hB1.size (Obj.cells #[.bool sec, .string H, .int .i64 n] 23)
      have hu1 := hu _ (hM.later hBa)
      go_wp2_with fail
      refine hu1.mono ?_
      rintro e w2 ⟨rfl, hB2⟩
      have hBb := (hBa.then (Nat.le_refl _) hB2)
      have hBc := hBb.alloc hBb.size (Obj.cells #[.bool sec, .string H, .int .i64 n] 23)
      have hbare := bare_is (0) (hg.later hBc) (ErrIs.none _)
      have hsz : w1.heap.size + 1 ≤ w2.heap.size := by simpa using hB2.size
      have hP := ((by simpa using hB2 : Below (w1.heap.size + 1) (w1.alloc (Obj.cells #[.bool sec, .string H, .int .i64 n] 23)) w2).alloc (by omega) (Obj.cells #[.bool sec, .string H, .int .i64 n] 23))
      have hQ := Below.refl (w2.heap.size + 1) (w2.alloc (Obj.cells #[.bool sec, .string H, .int .i64 n] 23))
      clear ho hu hu1
      go_wp2_with fail
      refine hbare.mono ?_
      rintro e w3 ⟨rfl, hB3⟩
      have hP3 := hP.then (by first | (simp; done) | (simp; omega)) hB3
      have hQ3 := hQ.then (by simp) hB3
      have a0 := box_cell hP3 0 rfl
      have a1 := box_cell hP3 1 rfl
      have a2 := box_cell hP3 2 rfl
      have b0 := box_cell hQ3 0 rfl
      have b1 := box_cell hQ3 1 rfl
      have b2 := box_cell hQ3 2 rfl
      have hBd := hBc.then (Nat.le_refl _) hB3
      clear hP hQ hP3 hQ3 hbare
      go_wp2
      go_ret
      exact ⟨ret_bool (by simp), hBd⟩
end Go.Proofs.YtigdlnjlmjhdnaaGreatDoor.lawUrlOrigins
