/- UrlPrints: url.Print and url.Target return what the reference's return, for any URL: the walk of the statement. -/
import Derived.Test.YtdpmhkineanloaaDoorPrint
import Derived.OpenShut
import Derived.BigRegion
namespace Go.Proofs.YtdpmhkineanloaaDoor
open Go.ChangeShapes Go.WideShapes Go.ChangeAt Go.RowKit Go.WideElems

theorem cellsURL' : Tryd.prog.cellsOf 27 = 5 := by kernel_rfl
set_option maxRecDepth 100000 in
theorem url_open {w : World} {cs : List Value} (h : Rd Tryd.prog w 27 cs) : ∃ (o : Org) (p q : ByteArray), cs = [.bool o.sec, .string o.host, .int .i64 o.port, .string p, .string q] ∧ o.host.size ≤ reachBytes ∧ (Lit.int .i64 o.port).wf = true ∧ p.size ≤ reachBytes ∧ q.size ≤ reachBytes := by
  obtain ⟨hl, _⟩ := h.struct Tryd.underlying27
  rw [cellsURL'] at hl
  match cs, hl with
  | [c0, c1, c2, c3, c4], _ =>
    have r0 : Rd Tryd.prog w 25 [c0, c1, c2] := h.field Tryd.underlying27 0 rfl cellsOrigin
    have r3 : Rd Tryd.prog w 9 [c3] := h.field Tryd.underlying27 1 rfl cellsString
    have r4 : Rd Tryd.prog w 9 [c4] := h.field Tryd.underlying27 2 rfl cellsString
    obtain ⟨o, e0, z0, z1⟩ := org_open r0
    obtain ⟨s3, e3, z3⟩ := r3.string Tryd.underlying9
    obtain ⟨s4, e4, z4⟩ := r4.string Tryd.underlying9
    simp at e0 e3 e4
    obtain ⟨rfl, rfl, rfl⟩ := e0
    subst e3; subst e4
    exact ⟨o, s3, s4, rfl, z0, z1, z3, z4⟩

set_option maxRecDepth 100000 in
set_option maxHeartbeats 1000000 in
theorem walk_big (W : World) (sec : Bool) (host path query : ByteArray) (port : Int) (N : Nat) (hN6 : 600 < N)
    (hw1 : IntKind.i64.wrap ((host.size : Int) + (path.size : Int)) = (host.size : Int) + (path.size : Int)) (hN : IntKind.i64.wrap ((host.size : Int) + (path.size : Int) + (query.size : Int)) = (N : Int)) :
    Calls Tryd.prog 4 #[.agg #[.bool sec, .string host, .int .i64 port, .string path, .string query]] W fun e w' => e = .returned (.bool true) ∧ Below W.heap.size W w' := by
  have hB := (Below.refl W.heap.size W).alloc (Nat.le_refl _) (Obj.cells #[.bool sec, .string host, .int .i64 port, .string path, .string query] 27)
  have hd : decide ((600 : Int) < (N : Int)) = true := by simp; omega
  go_enter Tryd.func4, Tryd.ntmps4
  go_wp2_with fail
  go_region
  all_goals
    go_wp2
    go_ret
    exact ⟨rfl, hB.drew⟩
namespace lawUrlPrints
set_option maxRecDepth 100000 in
set_option maxHeartbeats 8000000 in
theorem walk (W : World) (_hsh : W.ShapedOpen Tryd.prog) (hp : Pow W) (cs : List Value) (hR : Rd Tryd.prog W 27 cs) :
    Calls Tryd.prog 4 #[.agg cs.toArray] W fun e w' => e = .returned (.bool true) ∧ Below W.heap.size W w' := by
  obtain ⟨⟨sec, host, port⟩, path, query, rfl, hh, hw, hz1, hz2⟩ := url_open hR
  clear hR _hsh
  simp only [reachBytes] at hh hz1 hz2
  have hB := (Below.refl W.heap.size W).alloc (Nat.le_refl _) (Obj.cells #[.bool sec, .string host, .int .i64 port, .string path, .string query] 27)
  obtain ⟨h0, h1⟩ := bounds_i64 hw
  clear hw
  have hw1 : IntKind.i64.wrap ((host.size : Int) + (path.size : Int)) = (host.size : Int) + (path.size : Int) := by simp (disch := omega) only [IntWalk.i64_in]
  have hw2 : IntKind.i64.wrap ((host.size : Int) + (path.size : Int) + (query.size : Int)) = (host.size : Int) + (path.size : Int) + (query.size : Int) := by simp (disch := omega) only [IntWalk.i64_in]
  by_cases h600 : 600 < host.size + path.size + query.size
  · exact walk_big W sec host path query port (host.size + path.size + query.size) h600 hw1 (by rw [hw2]; omega)
  · have hd2 : decide ((600 : Int) < (host.size : Int) + (path.size : Int) + (query.size : Int)) = false := by simp; omega
    go_enter Tryd.func4, Tryd.ntmps4
    go_wp2_with fail
    go_region_held3 (fun w' => Below (W.heap.size + 1) (W.alloc (Obj.cells #[.bool sec, .string host, .int .i64 port, .string path, .string query] 27)) w' ∧ w'.cell? ⟨W.heap.size, 0, none⟩ = some (.bool sec) ∧ w'.cell? ⟨W.heap.size, 1, none⟩ = some (.string host) ∧ w'.cell? ⟨W.heap.size, 2, none⟩ = some (.int .i64 port) ∧ w'.cell? ⟨W.heap.size, 3, none⟩ = some (.string path) ∧ w'.cell? ⟨W.heap.size, 4, none⟩ = some (.string query))
      (first | (exact mkU _ (Below.refl _ _).drew) | (go_split_ands; exact mkU _ ((by assumption : Below (W.heap.size + 1) _ _).then (by simp) (by assumption))))
      (first
        | (go_at_call 17; go_split_ands; refine (urlPrint sec host port path query h0 h1 _ (hp.later (below_box (by assumption))) (by omega) (by omega) (by omega)).mono ?_; rintro e w2 ⟨rfl, hB2⟩)
        | (go_at_call 18; go_split_ands; refine (refPrint sec host port path query h0 h1 _ (hp.later (below_box (by assumption))) (by omega) (by omega) (by omega)).mono ?_; rintro e w2 ⟨rfl, hB2⟩)
        | (go_at_call 19; go_split_ands; refine (urlTarget sec host port path query _ (by omega) (by omega)).mono ?_; rintro e w2 ⟨rfl, hB2⟩)
        | (go_at_call 20; go_split_ands; refine (refTarget sec host port path query _ (by omega) (by omega)).mono ?_; rintro e w2 ⟨rfl, hB2⟩))
    all_goals
      go_split_ands
      go_wp2
      go_ret
      exact ⟨ret_bool (by simp), (below_box (by assumption)).then (Nat.le_refl _) hB2⟩
end lawUrlPrints
end Go.Proofs.YtdpmhkineanloaaDoor
