/- UrlRights: url.Right and Port return what the reference's return, for any origin: the walk of the statement. -/
import Derived.Test.YtmpgamnpmgedkaaDoorUrlRight
import Derived.Test.YtmpgamnpmgedkaaDoorRight
import Derived.Test.YtmpgamnpmgedkaaDoorReq
import Derived.OpenShut
import Derived.BigRegion
namespace Go.Proofs.YtmpgamnpmgedkaaDoor.lawUrlRights
open Go.ChangeShapes Go.WideShapes Go.ChangeAt Go.RowKit Go.WideElems

set_option maxRecDepth 100000 in
theorem walk (W : World) (_hsh : W.ShapedOpen Tryd.prog) (cs : List Value) (hR : Rd Tryd.prog W 65 cs) :
    Calls Tryd.prog 13 #[.agg cs.toArray] W fun e w' => e = .returned (.bool true) ∧ Below W.heap.size W w' := by
  obtain ⟨⟨sec, host, port⟩, rfl, hh, hw⟩ := org_open hR
  clear hR _hsh
  simp only [reachBytes] at hh
  have hB := (Below.refl W.heap.size W).alloc (Nat.le_refl _) (Obj.cells #[.bool sec, .string host, .int .i64 port] 65)
  clear hw
  by_cases h100 : 100 < host.size
  · have hd : decide ((100 : Int) < (host.size : Int)) = true := by simp; omega
    go_enter Tryd.func13, Tryd.ntmps13
    go_wp2_with fail
    first | (go_region_with (fail)) | (go_region)
    all_goals
      go_wp2
      go_ret
      exact ⟨rfl, hB.drew⟩
  · have hd1 : decide (100 < host.size) = false := by simpa using h100
    have hd2 : decide ((100 : Int) < (host.size : Int)) = false := by simp; omega
    have hu := fun w' => urlRight sec host port w'
    have hr := fun w' => refOriginRight sec host port (by omega) w'
    generalize (hostOk host.data.toList && portOk port) = b at hu hr
    go_enter Tryd.func13, Tryd.ntmps13
    go_wp2_with fail
    go_region_held3 (fun w' => Below (W.heap.size + 1) (W.alloc (Obj.cells #[.bool sec, .string host, .int .i64 port] 65)) w' ∧ w'.cell? ⟨W.heap.size, 0, none⟩ = some (.bool sec) ∧ w'.cell? ⟨W.heap.size, 1, none⟩ = some (.string host) ∧ w'.cell? ⟨W.heap.size, 2, none⟩ = some (.int .i64 port))
      (first | (exact mkO _ (Below.refl _ _).drew) | (go_split_ands; exact mkO _ ((by assumption : Below (W.heap.size + 1) _ _).then (by simp) (by assumption))) | (go_split_ands; exact mkO _ (by assumption)))
      (first
        | (go_at_call 45; go_split_ands; refine (hu _).mono ?_; rintro e w2 ⟨rfl, hB2⟩)
        | (go_at_call 46; go_split_ands; refine (hr _).mono ?_; rintro e w2 ⟨rfl, hB2⟩)
        | (go_at_call 47; go_split_ands; refine (urlPort sec _).mono ?_; rintro e w2 ⟨rfl, rfl⟩)
        | (go_at_call 48; go_split_ands; refine (refPort sec _).mono ?_; rintro e w2 ⟨rfl, hB2⟩))
    all_goals
      go_split_ands
      go_wp2
      go_ret
      exact ⟨rfl, (below_box (by assumption)).then (Nat.le_refl _) hB2⟩
end Go.Proofs.YtmpgamnpmgedkaaDoor.lawUrlRights
