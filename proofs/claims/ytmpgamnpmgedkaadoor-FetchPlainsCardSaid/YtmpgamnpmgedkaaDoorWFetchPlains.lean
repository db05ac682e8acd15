/- FetchPlains: fetch.Plain returns what the reference's Plain returns, for any header: the walk of the statement. -/
import Derived.Test.YtmpgamnpmgedkaaDoorPlainR
import Derived.Test.YtmpgamnpmgedkaaDoorPar
import Derived.Test.YtmpgamnpmgedkaaDoorOrigin
import Derived.OpenShut
import Derived.BigRegion
namespace Go.Proofs.YtmpgamnpmgedkaaDoor.lawFetchPlains
open Go.ChangeShapes Go.WideShapes Go.ChangeAt Go.RowKit Go.WideElems
theorem mkP {w w' : World} {n v : ByteArray} (hB : Below (w.heap.size + 1) (w.alloc (pbox n v)) w') : Below (w.heap.size + 1) (w.alloc (pbox n v)) w' ∧ w'.cell? ⟨w.heap.size, 0, none⟩ = some (.string n) ∧ w'.cell? ⟨w.heap.size, 1, none⟩ = some (.string v) :=
  ⟨hB, box_cell hB 0 rfl, box_cell hB 1 rfl⟩
set_option maxRecDepth 100000 in
set_option maxHeartbeats 8000000 in
theorem walk (W : World) (hsh : W.ShapedOpen Tryd.prog) (cs : List Value) (hR : Rd Tryd.prog W 25 cs) :
    Calls Tryd.prog 6 #[.agg cs.toArray] W fun e w' => e = .returned (.bool true) ∧ Below W.heap.size W w' := by
  obtain ⟨⟨n, v⟩, rfl, hn, hv⟩ := par_open hR
  have hM := maxL_of hsh
  clear hR hsh
  simp only [reachBytes] at hn hv
  have hB := (Below.refl W.heap.size W).alloc (Nat.le_refl _) (pbox n v)
  have hw1 : IntKind.i64.wrap ((n.size : Int) + (v.size : Int)) = (n.size : Int) + (v.size : Int) := by simp [IntKind.wrap, IntKind.bits, IntKind.signed]; omega
  by_cases h400 : 400 < n.size + v.size
  · have hd : decide ((400 : Int) < (n.size : Int) + (v.size : Int)) = true := by simp; omega
    go_enter Tryd.func6, Tryd.ntmps6
    go_wp2_with fail
    first | (go_region_with (fail)) | (go_region)
    all_goals
      go_wp2
      go_ret
      exact ⟨rfl, hB.drew⟩
  · have hd : decide ((400 : Int) < (n.size : Int) + (v.size : Int)) = false := by simp; omega
    have hu := fun w' hM => fetchPlain n v w' hM (by omega) (by omega)
    have hr := fun w' hM => refPlain n v w' hM (by omega) (by omega)
    generalize plainB n.data.toList v.data.toList = b at hu hr
    have hMW : ∀ w', Below (W.heap.size + 1) (W.alloc (pbox n v)) w' → MaxL w' := fun w' h => hM.later (below_box h)
    go_enter Tryd.func6, Tryd.ntmps6
    go_wp2_with fail
    go_region_held3 (fun w' => Below (W.heap.size + 1) (W.alloc (pbox n v)) w' ∧ w'.cell? ⟨W.heap.size, 0, none⟩ = some (.string n) ∧ w'.cell? ⟨W.heap.size, 1, none⟩ = some (.string v))
      (first | (exact mkP (Below.refl _ _).drew) | (go_split_ands; exact mkP ((by assumption : Below (W.heap.size + 1) _ _).then (by simp) (by assumption))) | (go_split_ands; exact mkP (by assumption)))
      (first
        | (go_at_call 23; go_split_ands; refine (hu _ (hMW _ (by assumption))).mono ?_; rintro e w2 ⟨rfl, hB2⟩)
        | (go_at_call 24; go_split_ands; refine (hr _ (hMW _ (by assumption))).mono ?_; rintro e w2 ⟨rfl, hB2⟩))
    all_goals
      go_split_ands
      go_wp2
      go_ret
      exact ⟨ret_bool (by simp), (below_box (by assumption)).then (Nat.le_refl _) hB2⟩
end Go.Proofs.YtmpgamnpmgedkaaDoor.lawFetchPlains
