/- UrlParses: url.Parse finds what the reference's UrlParse finds: the walk of the statement. -/
import Derived.Test.YthmkilglidfdiaaGreatDoorUrlX
import Derived.Test.YthmkilglidfdiaaGreatDoorIdxA
import Derived.Test.YthmkilglidfdiaaGreatDoorErrs
import Derived.Test.YthmkilglidfdiaaGreatDoorReq
import Derived.OpenShut
namespace Go.Proofs.YthmkilglidfdiaaGreatDoor.lawUrlParses
open Go.ChangeShapes Go.WideShapes Go.ChangeAt Go.RowKit Go.WideElems
set_option maxRecDepth 100000 in
set_option maxHeartbeats 2000000 in
theorem walk (W : World) (hsh : W.ShapedOpen Tryz.prog) (hg : ErrType W) (s : ByteArray) (_hs : s.size ≤ reachBytes) :
    Calls Tryz.prog 3 #[.string s] W fun e w' => e = .returned (.bool true) ∧ Below W.heap.size W w' := by
  have hM := maxL_of hsh
  clear hsh _hs
  go_enter Tryz.func3, Tryz.ntmps3
  by_cases h1 : 500 < s.size
  · by_cases h2 : s.size ≤ 3000
    · go_wp2
      go_ret
      exact ⟨rfl, Below.refl _ _⟩
    · by_cases h3 : 3009 < s.size
      · go_wp2
        go_ret
        exact ⟨rfl, Below.refl _ _⟩
      · skip
        cases hv : urlParseP s.data.toList with
        | error x =>
          have ho := refUrlParse s W hM (by omega)
          have hu := fun w hM => urlParse s w hM (by omega)
          rw [urlV_error hv] at ho
          simp only [urlV_error hv] at hu
          go_wp2_with fail
          refine ho.mono ?_
          rintro e w1 ⟨rfl, hB1⟩
          have hBa := hB1.alloc hB1.size (Obj.cells #[.bool false, .string ⟨#[]⟩, .int .i64 0, .string ⟨#[]⟩, .string ⟨#[]⟩] 25)
          have hu1 := hu _ (hM.later hBa)
          go_wp2_with fail
          refine hu1.mono ?_
          rintro e w2 ⟨rfl, hB2⟩
          have hBb := (hBa.then (Nat.le_refl _) hB2)
          have hBc := hBb.alloc hBb.size (Obj.cells #[.bool false, .string ⟨#[]⟩, .int .i64 0, .string ⟨#[]⟩, .string ⟨#[]⟩] 25)
          have hbare := bare_is (x) (hg.later hBc) (ErrIs.num _ x)
          rw [show (((x : Int) == x) && ((-1 : Int) == -1)) = true by simp] at hbare
          have hsz : w1.heap.size + 1 ≤ w2.heap.size := by simpa using hB2.size
          have hP := ((by simpa using hB2 : Below (w1.heap.size + 1) (w1.alloc (Obj.cells #[.bool false, .string ⟨#[]⟩, .int .i64 0, .string ⟨#[]⟩, .string ⟨#[]⟩] 25)) w2).alloc (by omega) (Obj.cells #[.bool false, .string ⟨#[]⟩, .int .i64 0, .string ⟨#[]⟩, .string ⟨#[]⟩] 25))
          have hQ := Below.refl (w2.heap.size + 1) (w2.alloc (Obj.cells #[.bool false, .string ⟨#[]⟩, .int .i64 0, .string ⟨#[]⟩, .string ⟨#[]⟩] 25))
          clear ho hu hu1
          go_wp2_with fail
          refine hbare.mono ?_
          rintro e w3 ⟨rfl, hB3⟩
          have hP3 := hP.then (by first | (simp; done) | (simp; omega)) hB3
          have hQ3 := hQ.then (by simp) hB3
          have a0 := box_cell hP3 0 rfl
          have a1 := box_cell hP3 1 rfl
          have a2 := box_cell hP3 2 rfl
          have a3 := box_cell hP3 3 rfl
          have a4 := box_cell hP3 4 rfl
          have b0 := box_cell hQ3 0 rfl
          have b1 := box_cell hQ3 1 rfl
          have b2 := box_cell hQ3 2 rfl
          have b3 := box_cell hQ3 3 rfl
          have b4 := box_cell hQ3 4 rfl
          have hBd := hBc.then (Nat.le_refl _) hB3
          clear hP hQ hP3 hQ3 hbare
          go_wp2
          go_ret
          exact ⟨ret_bool (by simp), hBd⟩
        | ok z =>
          obtain ⟨⟨sec, h, n⟩, p, q⟩ := z
          have ho := refUrlParse s W hM (by omega)
          have hu := fun w hM => urlParse s w hM (by omega)
          rw [urlV_ok hv] at ho
          simp only [urlV_ok hv] at hu
          clear hv
          generalize (⟨h.toArray⟩ : ByteArray) = H at ho hu
          generalize (⟨q.toArray⟩ : ByteArray) = Q at ho hu
          go_wp2_with fail
          refine ho.mono ?_
          rintro e w1 ⟨rfl, hB1⟩
          have hBa := hB1.alloc hB1.size (Obj.cells #[.bool sec, .string H, .int .i64 n, .string p, .string Q] 25)
          have hu1 := hu _ (hM.later hBa)
          go_wp2_with fail
          refine hu1.mono ?_
          rintro e w2 ⟨rfl, hB2⟩
          have hBb := (hBa.then (Nat.le_refl _) hB2)
          have hBc := hBb.alloc hBb.size (Obj.cells #[.bool sec, .string H, .int .i64 n, .string p, .string Q] 25)
          have hbare := bare_is (0) (hg.later hBc) (ErrIs.none _)
          rw [show (((0 : Int) == 0) && ((-1 : Int) == -1)) = true by simp] at hbare
          have hsz : w1.heap.size + 1 ≤ w2.heap.size := by simpa using hB2.size
          have hP := ((by simpa using hB2 : Below (w1.heap.size + 1) (w1.alloc (Obj.cells #[.bool sec, .string H, .int .i64 n, .string p, .string Q] 25)) w2).alloc (by omega) (Obj.cells #[.bool sec, .string H, .int .i64 n, .string p, .string Q] 25))
          have hQ := Below.refl (w2.heap.size + 1) (w2.alloc (Obj.cells #[.bool sec, .string H, .int .i64 n, .string p, .string Q] 25))
          clear ho hu hu1
          go_wp2_with fail
          refine hbare.mono ?_
          rintro e w3 ⟨rfl, hB3⟩
          have hP3 := hP.then (by first | (simp; done) | (simp; omega)) hB3
          have hQ3 := hQ.then (by simp) hB3
          have a0 := box_cell hP3 0 rfl
          have a1 := box_cell hP3 1 rfl
          have a2 := box_cell hP3 2 rfl
          have a3 := box_cell hP3 3 rfl
          have a4 := box_cell hP3 4 rfl
          have b0 := box_cell hQ3 0 rfl
          have b1 := box_cell hQ3 1 rfl
          have b2 := box_cell hQ3 2 rfl
          have b3 := box_cell hQ3 3 rfl
          have b4 := box_cell hQ3 4 rfl
          have hBd := hBc.then (Nat.le_refl _) hB3
          clear hP hQ hP3 hQ3 hbare
          go_wp2
          go_ret
          exact ⟨ret_bool (by simp), hBd⟩
  · skip
    cases hv : urlParseP s.data.toList with
    | error x =>
      have ho := refUrlParse s W hM (by omega)
      have hu := fun w hM => urlParse s w hM (by omega)
      rw [urlV_error hv] at ho
      simp only [urlV_error hv] at hu
      go_wp2_with fail
      refine ho.mono ?_
      rintro e w1 ⟨rfl, hB1⟩
      have hBa := hB1.alloc hB1.size (Obj.cells #[.bool false, .string ⟨#[]⟩, .int .i64 0, .string ⟨#[]⟩, .string ⟨#[]⟩] 25)
      have hu1 := hu _ (hM.later hBa)
      go_wp2_with fail
      refine hu1.mono ?_
      rintro e w2 ⟨rfl, hB2⟩
      have hBb := (hBa.then (Nat.le_refl _) hB2)
      have hBc := hBb.alloc hBb.size (Obj.cells #[.bool false, .string ⟨#[]⟩, .int .i64 0, .string ⟨#[]⟩, .string ⟨#[]⟩] 25)
      have hbare := bare_is (x) (hg.later hBc) (ErrIs.num _ x)
      rw [show (((x : Int) == x) && ((-1 : Int) == -1)) = true by simp] at hbare
      have hsz : w1.heap.size + 1 ≤ w2.heap.size := by simpa using hB2.size
      have hP := ((by simpa using hB2 : Below (w1.heap.size + 1) (w1.alloc (Obj.cells #[.bool false, .string ⟨#[]⟩, .int .i64 0, .string ⟨#[]⟩, .string ⟨#[]⟩] 25)) w2).alloc (by omega) (Obj.cells #[.bool false, .string ⟨#[]⟩, .int .i64 0, .string ⟨#[]⟩, .string ⟨#[]⟩] 25))
      have hQ := Below.refl (w2.heap.size + 1) (w2.alloc (Obj.cells #[.bool false, .string ⟨#[]⟩, .int .i64 0, .string ⟨#[]⟩, .string ⟨#[]⟩] 25))
      clear ho hu hu1
      go_wp2_with fail
      refine hbare.mono ?_
      rintro e w3 ⟨rfl, hB3⟩
      have hP3 := hP.then (by first | (simp; done) | (simp; omega)) hB3
      have hQ3 := hQ.then (by simp) hB3
      have a0 := box_cell hP3 0 rfl
      have a1 := box_cell hP3 1 rfl
      have a2 := box_cell hP3 2 rfl
      have a3 := box_cell hP3 3 rfl
      have a4 := box_cell hP3 4 rfl
      have b0 := box_cell hQ3 0 rfl
      have b1 := box_cell hQ3 1 rfl
      have b2 := box_cell hQ3 2 rfl
      have b3 := box_cell hQ3 3 rfl
      have b4 := box_cell hQ3 4 rfl
      have hBd := hBc.then (Nat.le_refl _) hB3
      clear hP hQ hP3 hQ3 hbare
      go_wp2
      go_ret
      exact ⟨ret_bool (by simp), hBd⟩
    | ok z =>
      obtain ⟨⟨sec, h, n⟩, p, q⟩ := z
      have ho := refUrlParse s W hM (by omega)
      have hu := fun w hM => urlParse s w hM (by omega)
      rw [urlV_ok hv] at ho
      simp only [urlV_ok hv] at hu
      clear hv
      generalize (⟨h.toArray⟩ : ByteArray) = H at ho hu
      generalize (⟨q.toArray⟩ : ByteArray) = Q at ho hu
      go_wp2_with fail
      refine ho.mono ?_
      rintro e w1 ⟨rfl, hB1⟩
      have hBa := hB1.alloc hB1.size (Obj.cells #[.bool sec, .string H, .int .i64 n, .string p, .string Q] 25)
      have hu1 := hu _ (hM.later hBa)
      go_wp2_with fail
      refine hu1.mono ?_
      rintro e w2 ⟨rfl, hB2⟩
      have hBb := (hBa.then (Nat.le_refl _) hB2)
      have hBc := hBb.alloc hBb.size (Obj.cells #[.bool sec, .string H, .int .i64 n, .string p, .string Q] 25)
      have hbare := bare_is (0) (hg.later hBc) (ErrIs.none _)
      rw [show (((0 : Int) == 0) && ((-1 : Int) == -1)) = true by simp] at hbare
      have hsz : w1.heap.size + 1 ≤ w2.heap.size := by simpa using hB2.size
      have hP := ((by simpa using hB2 : Below (w1.heap.size + 1) (w1.alloc (Obj.cells #[.bool sec, .string H, .int .i64 n, .string p, .string Q] 25)) w2).alloc (by omega) (Obj.cells #[.bool sec, .string H, .int .i64 n, .string p, .string Q] 25))
      have hQ := Below.refl (w2.heap.size + 1) (w2.alloc (Obj.cells #[.bool sec, .string H, .int .i64 n, .string p, .string Q] 25))
      clear ho hu hu1
      go_wp2_with fail
      refine hbare.mono ?_
      rintro e w3 ⟨rfl, hB3⟩
      have hP3 := hP.then (by first | (simp; done) | (simp; omega)) hB3
      have hQ3 := hQ.then (by simp) hB3
      have a0 := box_cell hP3 0 rfl
      have a1 := box_cell hP3 1 rfl
      have a2 := box_cell hP3 2 rfl
      have a3 := box_cell hP3 3 rfl
      have a4 := box_cell hP3 4 rfl
      have b0 := box_cell hQ3 0 rfl
      have b1 := box_cell hQ3 1 rfl
      have b2 := box_cell hQ3 2 rfl
      have b3 := box_cell hQ3 3 rfl
      have b4 := box_cell hQ3 4 rfl
      have hBd := hBc.then (Nat.le_refl _) hB3
      clear hP hQ hP3 hQ3 hbare
      go_wp2
      go_ret
      exact ⟨ret_bool (by simp), hBd⟩
end Go.Proofs.YthmkilglidfdiaaGreatDoor.lawUrlParses
