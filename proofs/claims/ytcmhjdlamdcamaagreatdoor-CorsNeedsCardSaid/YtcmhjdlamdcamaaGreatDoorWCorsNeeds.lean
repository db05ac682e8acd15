/- CorsNeeds: cors.Needs returns what the reference's Needs returns, for any small request: the walk of the statement. -/
import Derived.Test.YtcmhjdlamdcamaaGreatDoorNeeds
import Derived.Test.YtcmhjdlamdcamaaGreatDoorFound
import Derived.OpenShut
import Derived.Deep.RegionWith
import Derived.Deep.RegionHeld3
namespace Go.Proofs.YtcmhjdlamdcamaaGreatDoor.lawCorsNeeds
open Go.ChangeShapes Go.WideShapes Go.ChangeAt Go.RowKit Go.WideElems

theorem mkS (B : Nat) (W w' : World) (r : Req) (hBW : B = W.heap.size) (h : Below (B + 1) (W.alloc (Obj.cells r.arr 28)) w') :
    Below (B + 1) (W.alloc (Obj.cells r.arr 28)) w' ∧ w'.cell? ⟨B, 0, none⟩ = some (.int .i64 r.part) ∧ w'.cell? ⟨B, 1, none⟩ = some (.bool r.orig.sec) ∧ w'.cell? ⟨B, 2, none⟩ = some (.string r.orig.host) ∧ w'.cell? ⟨B, 3, none⟩ = some (.int .i64 r.orig.port) ∧ w'.cell? ⟨B, 4, none⟩ = some (.bool r.dest.sec) ∧ w'.cell? ⟨B, 5, none⟩ = some (.string r.dest.host) ∧ w'.cell? ⟨B, 6, none⟩ = some (.int .i64 r.dest.port) ∧ w'.cell? ⟨B, 7, none⟩ = some (.string r.path) ∧ w'.cell? ⟨B, 8, none⟩ = some (.string r.query) ∧ w'.cell? ⟨B, 9, none⟩ = some (.string r.method) ∧ w'.cell? ⟨B, 10, none⟩ = some (.slice r.addr r.heads.length r.cap) ∧ w'.cell? ⟨B, 11, none⟩ = some (.bool r.creds) ∧ w'.cell? ⟨B, 12, none⟩ = some (.string r.body) := by
  subst hBW
  exact ⟨h, box_all h 0 _ rfl, box_all h 1 _ rfl, box_all h 2 _ rfl, box_all h 3 _ rfl, box_all h 4 _ rfl, box_all h 5 _ rfl, box_all h 6 _ rfl, box_all h 7 _ rfl, box_all h 8 _ rfl, box_all h 9 _ rfl, box_all h 10 _ rfl, box_all h 11 _ rfl, box_all h 12 _ rfl⟩

set_option maxRecDepth 100000 in
set_option maxHeartbeats 1600000 in
theorem way1 (W : World) (r : Req) (hL : ∀ w' : World, Below W.heap.size W w' → Calls Tryz.prog 5 #[.agg r.arr] w' fun e w'' => e = .returned (.bool true) ∧ Below w'.heap.size w' w'') :
    Calls Tryz.prog 4 #[.agg r.arr] W fun e w' => e = .returned (.bool true) ∧ Below W.heap.size W w' := by
  have hB0 := (((Below.refl W.heap.size W).alloc (Nat.le_refl _) (Obj.cells r.arr 28)).drew)
  go_enter Tryz.func4, Tryz.ntmps4
  go_wp2_with fail
  first | (go_region_with (go_at_call 5; refine (hL _ hB0).mono ?_; rintro e w2 ⟨rfl, hB2⟩)) | fail
  all_goals
    go_wp2
    go_ret
    exact ⟨rfl, hB0.then (Nat.le_refl _) hB2⟩
set_option maxRecDepth 100000 in
set_option maxHeartbeats 1600000 in
theorem way3 (W : World) (r : Req) (res : Bool) (hL : ∀ w' : World, Below W.heap.size W w' → Calls Tryz.prog 5 #[.agg r.arr] w' fun e w'' => e = .returned (.bool false) ∧ Below w'.heap.size w' w'')
    (m1 : ∀ w' : World, Below W.heap.size W w' → Calls Tryz.prog 8 #[.agg r.arr] w' fun e w'' => e = .returned (.bool res) ∧ Below w'.heap.size w' w'')
    (m2 : ∀ w' : World, Below W.heap.size W w' → Calls Tryz.prog 9 #[.agg r.arr] w' fun e w'' => e = .returned (.bool res) ∧ Below w'.heap.size w' w'') :
    Calls Tryz.prog 4 #[.agg r.arr] W fun e w' => e = .returned (.bool true) ∧ Below W.heap.size W w' := by
  go_enter Tryz.func4, Tryz.ntmps4
  go_wp2_with fail
  go_region_held3 (fun w' => Below (W.heap.size + 1) (W.alloc (Obj.cells r.arr 28)) w' ∧ w'.cell? ⟨W.heap.size, 0, none⟩ = some (.int .i64 r.part) ∧ w'.cell? ⟨W.heap.size, 1, none⟩ = some (.bool r.orig.sec) ∧ w'.cell? ⟨W.heap.size, 2, none⟩ = some (.string r.orig.host) ∧ w'.cell? ⟨W.heap.size, 3, none⟩ = some (.int .i64 r.orig.port) ∧ w'.cell? ⟨W.heap.size, 4, none⟩ = some (.bool r.dest.sec) ∧ w'.cell? ⟨W.heap.size, 5, none⟩ = some (.string r.dest.host) ∧ w'.cell? ⟨W.heap.size, 6, none⟩ = some (.int .i64 r.dest.port) ∧ w'.cell? ⟨W.heap.size, 7, none⟩ = some (.string r.path) ∧ w'.cell? ⟨W.heap.size, 8, none⟩ = some (.string r.query) ∧ w'.cell? ⟨W.heap.size, 9, none⟩ = some (.string r.method) ∧ w'.cell? ⟨W.heap.size, 10, none⟩ = some (.slice r.addr r.heads.length r.cap) ∧ w'.cell? ⟨W.heap.size, 11, none⟩ = some (.bool r.creds) ∧ w'.cell? ⟨W.heap.size, 12, none⟩ = some (.string r.body))
    (first | (exact mkS _ _ _ _ rfl (Below.refl _ _).drew) | (go_split_ands; exact mkS _ _ _ _ rfl ((by assumption : Below (W.heap.size + 1) _ _).then (by simp) (by assumption))))
    (first
      | (go_at_call 5; go_split_ands; with_reducible (refine (hL _ (below_box (by assumption))).mono ?_); rintro e w2 ⟨rfl, hB2⟩)
      | (go_at_call 8; go_split_ands; refine (m1 _ (below_box (by assumption))).mono ?_; rintro e w2 ⟨rfl, hB2⟩)
      | (go_at_call 9; go_split_ands; refine (m2 _ (below_box (by assumption))).mono ?_; rintro e w2 ⟨rfl, hB2⟩))
  all_goals
    go_wp2
    go_ret
    exact ⟨ret_bool (by simp), (below_box (by assumption)).then (Nat.le_refl _) hB2⟩
set_option maxRecDepth 100000 in
theorem walk (W : World) (hsh : W.ShapedOpen Tryz.prog) (cs : List Value) (hR : Rd Tryz.prog W 28 cs) :
    Calls Tryz.prog 4 #[.agg cs.toArray] W fun e w' => e = .returned (.bool true) ∧ Below W.heap.size W w' := by
  obtain ⟨r, rfl, hO⟩ := req_open hR
  have hM := maxL_of hsh
  clear hR hsh
  have hL := fun w' (h : Below W.heap.size W w') => large_says r w' (hO.later h)
  cases hlb : largeB r
  case true =>
    rw [hlb] at hL
    exact way1 W r hL
  case false =>
    rw [hlb] at hL
    have hS := small_of hlb
    have hfew : r.heads.length ≤ 1000 := Nat.le_trans hS.few (by decide)
    have hz : ∀ p ∈ r.heads, p.1.size ≤ 1000 ∧ p.2.size ≤ 1000 := fun p hp => by have := hS.short p hp; omega
    exact way3 W r (needV r) hL (fun w' h => corsNeeds r w' (hM.later h) (hO.later h) hfew hz) (fun w' h => refNeeds r w' (hM.later h) (hO.later h) hfew hz)
end Go.Proofs.YtcmhjdlamdcamaaGreatDoor.lawCorsNeeds
