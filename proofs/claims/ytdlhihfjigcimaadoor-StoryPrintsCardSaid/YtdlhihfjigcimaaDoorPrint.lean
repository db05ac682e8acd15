/- url.Print and url.Target, and the reference's: a URL as text. -/
import Derived.Test.YtdlhihfjigcimaaDoorOrigin
import Derived.Test.YtdlhihfjigcimaaDoorReq
namespace Go.Proofs.YtdlhihfjigcimaaDoor
open Go.RowKit

def targetB (path query : ByteArray) : ByteArray := if query.toList.isEmpty then path else path ++ ⟨#[63]⟩ ++ query
theorem targetB_size (path query : ByteArray) : (targetB path query).size ≤ path.size + query.size + 1 := by
  unfold targetB
  split
  · omega
  · rw [ByteArray.size_append, ByteArray.size_append, show (⟨#[63]⟩ : ByteArray).size = 1 from rfl]; omega
theorem mkU {w : World} {sec : Bool} {host : ByteArray} {port : Int} {path query : ByteArray} (w' : World) (h : Below (w.heap.size + 1) (w.alloc (Obj.cells #[.bool sec, .string host, .int .i64 port, .string path, .string query] 56)) w') :
    Below (w.heap.size + 1) (w.alloc (Obj.cells #[.bool sec, .string host, .int .i64 port, .string path, .string query] 56)) w' ∧ w'.cell? ⟨w.heap.size, 0, none⟩ = some (.bool sec) ∧ w'.cell? ⟨w.heap.size, 1, none⟩ = some (.string host) ∧ w'.cell? ⟨w.heap.size, 2, none⟩ = some (.int .i64 port) ∧ w'.cell? ⟨w.heap.size, 3, none⟩ = some (.string path) ∧ w'.cell? ⟨w.heap.size, 4, none⟩ = some (.string query) :=
  ⟨h, box_cell h 0 rfl, box_cell h 1 rfl, box_cell h 2 rfl, box_cell h 3 rfl, box_cell h 4 rfl⟩
set_option maxRecDepth 100000 in
theorem refTarget (sec : Bool) (host : ByteArray) (port : Int) (path query : ByteArray) (w : World) (z1 : path.size ≤ 1099511627776) (z2 : query.size ≤ 1099511627776) :
    Calls Tryd.prog 113 #[.agg #[.bool sec, .string host, .int .i64 port, .string path, .string query]] w fun e w' => e = .returned (.string (targetB path query)) ∧ Below w.heap.size w w' := by
  have hB := (Below.refl w.heap.size w).alloc (Nat.le_refl _) (Obj.cells #[.bool sec, .string host, .int .i64 port, .string path, .string query] 56)
  cases hq : query.toList.isEmpty
  all_goals
    have hq' := Lib.hid hq
    go_enter Tryd.func113, Tryd.ntmps113
    go_wp2_with fail
    all_goals
      go_ret
      exact ⟨ret_str (by unfold targetB; rw [hq'.out]; first | rfl | simp [ByteArray.append_assoc]), hB⟩

def printB (sec : Bool) (host : ByteArray) (port : Int) (path query : ByteArray) : ByteArray := ⟨(originL sec host port).toArray⟩ ++ targetB path query

set_option maxRecDepth 100000 in
theorem refPrint (sec : Bool) (host : ByteArray) (port : Int) (path query : ByteArray) (h0 : -9223372036854775808 ≤ port) (h1 : port ≤ 9223372036854775807) (w : World) (hp : Pow w) (z0 : host.size ≤ 1000) (z1 : path.size ≤ 1000) (z2 : query.size ≤ 1000) :
    Calls Tryd.prog 74 #[.agg #[.bool sec, .string host, .int .i64 port, .string path, .string query]] w fun e w' => e = .returned (.string (printB sec host port path query)) ∧ Below w.heap.size w w' := by
  have tx := fun w' hp => refText sec host port h0 h1 (by omega) w' hp
  have hl := originL_len sec host port h0 h1
  have hsz : (⟨(originL sec host port).toArray⟩ : ByteArray).size = (originL sec host port).length := by rw [Lib.size_eq]
  unfold printB
  generalize (⟨(originL sec host port).toArray⟩ : ByteArray) = T at hsz tx
  have hsT : T.size ≤ 2000 := by omega
  clear hsz hl
  have hsB := targetB_size path query
  have hadd := fun w' => run_string_add_sum (P := Tryd.prog) w' T (targetB path query) (by omega)
  go_enter Tryd.func74, Tryd.ntmps74
  go_wp2_with fail
  go_region_held3 (fun w' => Below (w.heap.size + 1) (w.alloc (Obj.cells #[.bool sec, .string host, .int .i64 port, .string path, .string query] 56)) w' ∧ w'.cell? ⟨w.heap.size, 0, none⟩ = some (.bool sec) ∧ w'.cell? ⟨w.heap.size, 1, none⟩ = some (.string host) ∧ w'.cell? ⟨w.heap.size, 2, none⟩ = some (.int .i64 port) ∧ w'.cell? ⟨w.heap.size, 3, none⟩ = some (.string path) ∧ w'.cell? ⟨w.heap.size, 4, none⟩ = some (.string query))
    (first | (exact mkU _ (Below.refl _ _).drew) | (go_split_ands; exact mkU _ ((by assumption : Below (w.heap.size + 1) _ _).then (by simp) (by assumption))))
    (first
      | (go_at_call 112; go_split_ands; refine (tx _ (hp.later (below_box (by assumption)))).mono ?_; rintro e w2 ⟨rfl, hB2⟩)
      | (go_at_call 113; go_split_ands; refine (refTarget sec host port path query _ (by omega) (by omega)).mono ?_; rintro e w2 ⟨rfl, hB2⟩))
  all_goals
    go_split_ands
    go_wp2
    go_ret
    exact ⟨rfl, (below_box (by assumption)).then (Nat.le_refl _) hB2⟩

set_option maxRecDepth 100000 in
theorem urlPrint (sec : Bool) (host : ByteArray) (port : Int) (path query : ByteArray) (h0 : -9223372036854775808 ≤ port) (h1 : port ≤ 9223372036854775807) (w : World) (hp : Pow w) (z0 : host.size ≤ 1000) (z1 : path.size ≤ 1000) (z2 : query.size ≤ 1000) :
    Calls Tryd.prog 71 #[.agg #[.bool sec, .string host, .int .i64 port, .string path, .string query]] w fun e w' => e = .returned (.string (printB sec host port path query)) ∧ Below w.heap.size w w' := by
  have tx := fun w' hp => urlText sec host port h0 h1 (by omega) w' hp
  have hl := originL_len sec host port h0 h1
  have hsz : (⟨(originL sec host port).toArray⟩ : ByteArray).size = (originL sec host port).length := by rw [Lib.size_eq]
  unfold printB
  generalize (⟨(originL sec host port).toArray⟩ : ByteArray) = T at hsz tx
  have hsT : T.size ≤ 2000 := by omega
  clear hsz hl
  have hadd := fun w' => run_string_add_sum (P := Tryd.prog) w' T path (by omega)
  cases hq : query.toList.isEmpty
  all_goals
    have hq' := Lib.hid hq
    go_enter Tryd.func71, Tryd.ntmps71
    go_wp2_with fail
    go_region_held3 (fun w' => Below (w.heap.size + 1) (w.alloc (Obj.cells #[.bool sec, .string host, .int .i64 port, .string path, .string query] 56)) w' ∧ w'.cell? ⟨w.heap.size, 0, none⟩ = some (.bool sec) ∧ w'.cell? ⟨w.heap.size, 1, none⟩ = some (.string host) ∧ w'.cell? ⟨w.heap.size, 2, none⟩ = some (.int .i64 port) ∧ w'.cell? ⟨w.heap.size, 3, none⟩ = some (.string path) ∧ w'.cell? ⟨w.heap.size, 4, none⟩ = some (.string query))
      (first | (exact mkU _ (Below.refl _ _).drew) | (go_split_ands; exact mkU _ ((by assumption : Below (w.heap.size + 1) _ _).then (by simp) (by assumption))))
      (first
        | (go_at_call 110; go_split_ands; refine (tx _ (hp.later (below_box (by assumption)))).mono ?_; rintro e w2 ⟨rfl, hB2⟩))
  all_goals
    go_split_ands
    have hBx : Below w.heap.size w _ := below_box (by assumption)
    go_wp2
    go_ret
    exact ⟨ret_str (by unfold targetB; rw [hq'.out]; first | rfl | simp [ByteArray.append_assoc]), hBx⟩
end Go.Proofs.YtdlhihfjigcimaaDoor
