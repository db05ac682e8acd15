/- FetchRights: fetch.Right returns what the reference's RequestRight returns, for any request: the walk of the statement. -/
import Derived.Test.YteflbehlgnfkfaaFetchRight
namespace Go.Proofs.Yteflbehlgnfkfaa.lawFetchRights
open Go.ChangeShapes Go.WideShapes Go.ChangeAt Go.RowKit Go.WideElems

theorem mkS (B : Nat) (W w' : World) (r : Req) (hBW : B = W.heap.size) (h : Below (B + 1) (W.alloc (Obj.cells r.arr 40)) w') :
    Below (B + 1) (W.alloc (Obj.cells r.arr 40)) w' ∧ w'.cell? ⟨B, 0, none⟩ = some (.int .i64 r.part) ∧ w'.cell? ⟨B, 1, none⟩ = some (.bool r.orig.sec) ∧ w'.cell? ⟨B, 2, none⟩ = some (.string r.orig.host) ∧ w'.cell? ⟨B, 3, none⟩ = some (.int .i64 r.orig.port) ∧ w'.cell? ⟨B, 4, none⟩ = some (.bool r.dest.sec) ∧ w'.cell? ⟨B, 5, none⟩ = some (.string r.dest.host) ∧ w'.cell? ⟨B, 6, none⟩ = some (.int .i64 r.dest.port) ∧ w'.cell? ⟨B, 7, none⟩ = some (.string r.path) ∧ w'.cell? ⟨B, 8, none⟩ = some (.string r.query) ∧ w'.cell? ⟨B, 9, none⟩ = some (.string r.method) ∧ w'.cell? ⟨B, 10, none⟩ = some (.slice r.addr r.heads.length r.cap) ∧ w'.cell? ⟨B, 11, none⟩ = some (.bool r.creds) ∧ w'.cell? ⟨B, 12, none⟩ = some (.string r.body) := by
  subst hBW
  exact ⟨h, box_all h 0 _ rfl, box_all h 1 _ rfl, box_all h 2 _ rfl, box_all h 3 _ rfl, box_all h 4 _ rfl, box_all h 5 _ rfl, box_all h 6 _ rfl, box_all h 7 _ rfl, box_all h 8 _ rfl, box_all h 9 _ rfl, box_all h 10 _ rfl, box_all h 11 _ rfl, box_all h 12 _ rfl⟩

set_option maxRecDepth 100000 in
set_option maxHeartbeats 1600000 in
theorem walk (W : World) (_hsh : W.ShapedOpen Try.prog) (cs : List Value) (hR : Rd Try.prog W 40 cs) :
    Calls Try.prog 8 #[.agg cs.toArray] W fun e w' => e = .returned (.bool true) ∧ Below W.heap.size W w' := by
  obtain ⟨r, rfl, hO⟩ := req_open hR
  clear hR _hsh
  cases hlb : largeB r
  case true =>
   go_enter Try.func8, Try.ntmps8
   go_wp2_with fail
   go_region_with (go_at_call 26; refine (large_says r _ (hO.later (((Below.refl W.heap.size W).alloc (Nat.le_refl _) _).drew))).mono ?_; rintro e w2 ⟨rfl, hB2⟩)
   all_goals
     go_wp2
     go_ret
     exact ⟨rfl, (((Below.refl W.heap.size W).alloc (Nat.le_refl _) _).drew).then (Nat.le_refl _) hB2⟩
  case false =>
   go_enter Try.func8, Try.ntmps8
   go_wp2_with fail
   go_region_held3 (fun w' => Below (W.heap.size + 1) (W.alloc (Obj.cells r.arr 40)) w' ∧ w'.cell? ⟨W.heap.size, 0, none⟩ = some (.int .i64 r.part) ∧ w'.cell? ⟨W.heap.size, 1, none⟩ = some (.bool r.orig.sec) ∧ w'.cell? ⟨W.heap.size, 2, none⟩ = some (.string r.orig.host) ∧ w'.cell? ⟨W.heap.size, 3, none⟩ = some (.int .i64 r.orig.port) ∧ w'.cell? ⟨W.heap.size, 4, none⟩ = some (.bool r.dest.sec) ∧ w'.cell? ⟨W.heap.size, 5, none⟩ = some (.string r.dest.host) ∧ w'.cell? ⟨W.heap.size, 6, none⟩ = some (.int .i64 r.dest.port) ∧ w'.cell? ⟨W.heap.size, 7, none⟩ = some (.string r.path) ∧ w'.cell? ⟨W.heap.size, 8, none⟩ = some (.string r.query) ∧ w'.cell? ⟨W.heap.size, 9, none⟩ = some (.string r.method) ∧ w'.cell? ⟨W.heap.size, 10, none⟩ = some (.slice r.addr r.heads.length r.cap) ∧ w'.cell? ⟨W.heap.size, 11, none⟩ = some (.bool r.creds) ∧ w'.cell? ⟨W.heap.size, 12, none⟩ = some (.string r.body))
     (first | (exact mkS _ _ _ _ rfl (Below.refl _ _).drew) | (go_split_ands; exact mkS _ _ _ _ rfl ((by assumption : Below (W.heap.size + 1) _ _).then (by simp) (by assumption))))
     (first
       | (go_at_call 26; go_split_ands; refine (large_says r _ (hO.later (below_box (by assumption)))).mono ?_; rintro e w2 ⟨rfl, hB2⟩)
       | (go_at_call 27; go_split_ands; refine (fetchRight r _ (hO.later (below_box (by assumption)))).mono ?_; rintro e w2 ⟨rfl, hB2⟩)
       | (go_at_call 28; go_split_ands; refine (refRequestRight r _ (hO.later (below_box (by assumption)))).mono ?_; rintro e w2 ⟨rfl, hB2⟩))
   all_goals
     go_wp2
     go_ret
     exact ⟨ret_bool (by simp), (below_box (by assumption)).then (Nat.le_refl _) hB2⟩
end Go.Proofs.Yteflbehlgnfkfaa.lawFetchRights
