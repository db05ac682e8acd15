/- CorsMays: cors.May returns what the reference's May returns, for any small request and fields: the walk of the statement. -/
import Derived.Test.YtdpmhkineanloaaDoorMay
import Derived.OpenShut
import Derived.Deep.RegionWith
import Derived.Deep.RegionHeld3
namespace Go.Proofs.YtdpmhkineanloaaDoor.lawCorsMays
open Go.ChangeShapes Go.WideShapes Go.ChangeAt Go.RowKit Go.WideElems

theorem mkS (B : Nat) (W w' : World) (r : Req) (hBW : B = W.heap.size) (h : Below (B + 1) (W.alloc (Obj.cells r.arr 46)) w') :
    Below (B + 1) (W.alloc (Obj.cells r.arr 46)) w' ∧ w'.cell? ⟨B, 0, none⟩ = some (.int .i64 r.part) ∧ w'.cell? ⟨B, 1, none⟩ = some (.bool r.orig.sec) ∧ w'.cell? ⟨B, 2, none⟩ = some (.string r.orig.host) ∧ w'.cell? ⟨B, 3, none⟩ = some (.int .i64 r.orig.port) ∧ w'.cell? ⟨B, 4, none⟩ = some (.bool r.dest.sec) ∧ w'.cell? ⟨B, 5, none⟩ = some (.string r.dest.host) ∧ w'.cell? ⟨B, 6, none⟩ = some (.int .i64 r.dest.port) ∧ w'.cell? ⟨B, 7, none⟩ = some (.string r.path) ∧ w'.cell? ⟨B, 8, none⟩ = some (.string r.query) ∧ w'.cell? ⟨B, 9, none⟩ = some (.string r.method) ∧ w'.cell? ⟨B, 10, none⟩ = some (.slice r.addr r.heads.length r.cap) ∧ w'.cell? ⟨B, 11, none⟩ = some (.bool r.creds) ∧ w'.cell? ⟨B, 12, none⟩ = some (.string r.body) := by
  subst hBW
  exact ⟨h, box_all h 0 _ rfl, box_all h 1 _ rfl, box_all h 2 _ rfl, box_all h 3 _ rfl, box_all h 4 _ rfl, box_all h 5 _ rfl, box_all h 6 _ rfl, box_all h 7 _ rfl, box_all h 8 _ rfl, box_all h 9 _ rfl, box_all h 10 _ rfl, box_all h 11 _ rfl, box_all h 12 _ rfl⟩

set_option maxRecDepth 100000 in
set_option maxHeartbeats 1600000 in
theorem way1 (W : World) (r : Req) (a : Option Addr) (cap : Nat) (ps : List (ByteArray × ByteArray)) (hL : ∀ w' : World, Below W.heap.size W w' → Calls Tryd.prog 34 #[.agg r.arr] w' fun e w'' => e = .returned (.bool true) ∧ Below w'.heap.size w' w'') :
    Calls Tryd.prog 6 #[.agg r.arr, .slice a ps.length cap] W fun e w' => e = .returned (.bool true) ∧ Below W.heap.size W w' := by
  have hB0 := (((Below.refl W.heap.size W).alloc (Nat.le_refl _) (Obj.cells r.arr 46)).drew)
  go_enter Tryd.func6, Tryd.ntmps6
  go_wp2_with fail
  first | (go_region_with (go_at_call 34; refine (hL _ hB0).mono ?_; rintro e w2 ⟨rfl, hB2⟩)) | fail
  all_goals
    go_wp2
    go_ret
    exact ⟨rfl, hB0.then (Nat.le_refl _) hB2⟩
set_option maxRecDepth 100000 in
set_option maxHeartbeats 1600000 in
theorem way2 (W : World) (r : Req) (a : Option Addr) (cap : Nat) (ps : List (ByteArray × ByteArray)) (hL : ∀ w' : World, Below W.heap.size W w' → Calls Tryd.prog 34 #[.agg r.arr] w' fun e w'' => e = .returned (.bool false) ∧ Below w'.heap.size w' w'') (hL2 : ∀ w' : World, Below W.heap.size W w' → Calls Tryd.prog 34 #[.agg (headsReq a cap ps).arr] w' fun e w'' => e = .returned (.bool true) ∧ Below w'.heap.size w' w'') :
    Calls Tryd.prog 6 #[.agg r.arr, .slice a ps.length cap] W fun e w' => e = .returned (.bool true) ∧ Below W.heap.size W w' := by
  have hB0 := (((Below.refl W.heap.size W).alloc (Nat.le_refl _) (Obj.cells r.arr 46)).drew)
  go_enter Tryd.func6, Tryd.ntmps6
  go_wp2_with fail
  first | (go_region_with (first | (go_at_call 34; refine (hL _ hB0).mono ?_; rintro e w2 ⟨rfl, hB2⟩; have hB3 := hB0.then (Nat.le_refl _) hB2; clear hL) | (go_at_call 34; refine (hL2 _ hB3).mono ?_; rintro e w4 ⟨rfl, hB4⟩))) | fail
  all_goals
    go_wp2
    go_ret
    exact ⟨rfl, hB3.then (Nat.le_refl _) hB4⟩
set_option maxRecDepth 100000 in
set_option maxHeartbeats 1600000 in
theorem way3 (W : World) (r : Req) (a : Option Addr) (cap : Nat) (ps : List (ByteArray × ByteArray)) (res : Bool) (hL : ∀ w' : World, Below W.heap.size W w' → Calls Tryd.prog 34 #[.agg r.arr] w' fun e w'' => e = .returned (.bool false) ∧ Below w'.heap.size w' w'') (hL2 : ∀ w' : World, Below W.heap.size W w' → Calls Tryd.prog 34 #[.agg (headsReq a cap ps).arr] w' fun e w'' => e = .returned (.bool false) ∧ Below w'.heap.size w' w'')
    (m1 : ∀ w' : World, Below W.heap.size W w' → Calls Tryd.prog 35 #[.agg r.arr, .slice a ps.length cap] w' fun e w'' => e = .returned (.bool res) ∧ Below w'.heap.size w' w'')
    (m2 : ∀ w' : World, Below W.heap.size W w' → Calls Tryd.prog 36 #[.agg r.arr, .slice a ps.length cap] w' fun e w'' => e = .returned (.bool res) ∧ Below w'.heap.size w' w'') :
    Calls Tryd.prog 6 #[.agg r.arr, .slice a ps.length cap] W fun e w' => e = .returned (.bool true) ∧ Below W.heap.size W w' := by
  go_enter Tryd.func6, Tryd.ntmps6
  go_wp2_with fail
  go_region_held3 (fun w' => Below (W.heap.size + 1) (W.alloc (Obj.cells r.arr 46)) w' ∧ w'.cell? ⟨W.heap.size, 0, none⟩ = some (.int .i64 r.part) ∧ w'.cell? ⟨W.heap.size, 1, none⟩ = some (.bool r.orig.sec) ∧ w'.cell? ⟨W.heap.size, 2, none⟩ = some (.string r.orig.host) ∧ w'.cell? ⟨W.heap.size, 3, none⟩ = some (.int .i64 r.orig.port) ∧ w'.cell? ⟨W.heap.size, 4, none⟩ = some (.bool r.dest.sec) ∧ w'.cell? ⟨W.heap.size, 5, none⟩ = some (.string r.dest.host) ∧ w'.cell? ⟨W.heap.size, 6, none⟩ = some (.int .i64 r.dest.port) ∧ w'.cell? ⟨W.heap.size, 7, none⟩ = some (.string r.path) ∧ w'.cell? ⟨W.heap.size, 8, none⟩ = some (.string r.query) ∧ w'.cell? ⟨W.heap.size, 9, none⟩ = some (.string r.method) ∧ w'.cell? ⟨W.heap.size, 10, none⟩ = some (.slice r.addr r.heads.length r.cap) ∧ w'.cell? ⟨W.heap.size, 11, none⟩ = some (.bool r.creds) ∧ w'.cell? ⟨W.heap.size, 12, none⟩ = some (.string r.body))
    (first | (exact mkS _ _ _ _ rfl (Below.refl _ _).drew) | (go_split_ands; exact mkS _ _ _ _ rfl ((by assumption : Below (W.heap.size + 1) _ _).then (by simp) (by assumption))))
    (first
      | (go_at_call 34; go_split_ands; with_reducible (refine (hL _ (below_box (by assumption))).mono ?_); rintro e w2 ⟨rfl, hB2⟩)
      | (go_at_call 34; go_split_ands; refine (hL2 _ (below_box (by assumption))).mono ?_; rintro e w2 ⟨rfl, hB2⟩)
      | (go_at_call 35; go_split_ands; refine (m1 _ (below_box (by assumption))).mono ?_; rintro e w2 ⟨rfl, hB2⟩)
      | (go_at_call 36; go_split_ands; refine (m2 _ (below_box (by assumption))).mono ?_; rintro e w2 ⟨rfl, hB2⟩))
  all_goals
    go_wp2
    go_ret
    exact ⟨ret_bool (by simp), (below_box (by assumption)).then (Nat.le_refl _) hB2⟩
set_option maxRecDepth 100000 in
theorem walk (W : World) (_hsh : W.ShapedOpen Tryd.prog) (hp : Pow W) (cs : List Value) (hR : Rd Tryd.prog W 46 cs) (a : Option Addr) (len cap : Nat) (hR2 : Rd Tryd.prog W 44 [.slice a len cap]) :
    Calls Tryd.prog 6 #[.agg cs.toArray, .slice a len cap] W fun e w' => e = .returned (.bool true) ∧ Below W.heap.size W w' := by
  obtain ⟨r, rfl, hO⟩ := req_open hR
  obtain ⟨ps, rfl, hP, hz, hb, _⟩ := pars_open hR2
  clear hR hR2 _hsh
  have hO2 := headsReq_ok (cap := cap) hb hP hz
  have hL := fun w' (h : Below W.heap.size W w') => large_says r w' (hO.later h)
  have hL2 := fun w' (h : Below W.heap.size W w') => large_says (headsReq a cap ps) w' (hO2.later h)
  cases hlb : largeB r
  case true =>
    rw [hlb] at hL
    exact way1 W r a cap ps hL
  case false =>
    rw [hlb] at hL
    have hS := small_of hlb
    have hhost : r.orig.host.size ≤ 1099511627776 := by have := hS.total; unfold Req.total at this; omega
    cases hlb2 : largeB (headsReq a cap ps)
    case true =>
      rw [hlb2] at hL2
      exact way2 W r a cap ps hL hL2
    case false =>
      rw [hlb2] at hL2
      have hS2 := small_of hlb2
      have hfew : ps.length ≤ 45 := hS2.few
      have hM : ∀ p ∈ ps, p.2.size ≤ 300 := fun p hp => by have := hS2.short p hp; omega
      exact way3 W r a cap ps _ hL hL2 (fun w' h => corsMay r a cap ps 300 w' (hO.later h) (hp.later h) (hP.later h) hz.sz (by omega) hM (by omega) hhost)
        (fun w' h => refMay r a cap ps 300 w' (hO.later h) (hp.later h) (hP.later h) hz.sz (by omega) hM (by omega) (by omega) hhost)
end Go.Proofs.YtdpmhkineanloaaDoor.lawCorsMays
