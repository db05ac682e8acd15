/- UrlTexts: url.Text returns what the reference's OriginText returns, for any origin: the walk of the statement. -/
import Derived.Test.YtnmeifobikemlaaDoorOrigin
import Derived.Test.YtnmeifobikemlaaDoorReq
import Derived.OpenShut
namespace Go.Proofs.YtnmeifobikemlaaDoor.lawUrlTexts
open Go.ChangeShapes Go.WideShapes Go.ChangeAt Go.RowKit Go.WideElems

set_option maxRecDepth 100000 in
theorem walk (W : World) (_hsh : W.ShapedOpen Tryd.prog) (hp : Pow W) (cs : List Value) (hR : Rd Tryd.prog W 32 cs) :
    Calls Tryd.prog 5 #[.agg cs.toArray] W fun e w' => e = .returned (.bool true) ∧ Below W.heap.size W w' := by
  obtain ⟨⟨sec, host, port⟩, rfl, hh, hw⟩ := org_open hR
  clear hR _hsh
  simp only [reachBytes] at hh
  have hB := (Below.refl W.heap.size W).alloc (Nat.le_refl _) (Obj.cells #[.bool sec, .string host, .int .i64 port] 32)
  obtain ⟨h0, h1⟩ := bounds_i64 hw
  clear hw
  by_cases h100 : 100 < host.size
  · go_enter Tryd.func5, Tryd.ntmps5
    go_wp2_with fail
    go_region_with (fail)
    all_goals
      go_wp2
      go_ret
      exact ⟨rfl, hB.drew⟩
  · have hd1 : decide (100 < host.size) = false := by simpa using h100
    have hd2 : decide ((100 : Int) < (host.size : Int)) = false := by simp; omega
    go_enter Tryd.func5, Tryd.ntmps5
    go_wp2_with fail
    go_region_held3 (fun w' => Below (W.heap.size + 1) (W.alloc (Obj.cells #[.bool sec, .string host, .int .i64 port] 32)) w' ∧ w'.cell? ⟨W.heap.size, 0, none⟩ = some (.bool sec) ∧ w'.cell? ⟨W.heap.size, 1, none⟩ = some (.string host) ∧ w'.cell? ⟨W.heap.size, 2, none⟩ = some (.int .i64 port))
      (first | (exact mkO _ (Below.refl _ _).drew) | (go_split_ands; exact mkO _ ((by assumption : Below (W.heap.size + 1) _ _).then (by simp) (by assumption))))
      (first
        | (go_at_call 20; go_split_ands; refine (urlText sec host port h0 h1 (by omega) _ (hp.later (below_box (by assumption)))).mono ?_; rintro e w2 ⟨rfl, hB2⟩)
        | (go_at_call 21; go_split_ands; refine (refText sec host port h0 h1 (by omega) _ (hp.later (below_box (by assumption)))).mono ?_; rintro e w2 ⟨rfl, hB2⟩))
    all_goals
      go_split_ands
      go_wp2
      go_ret
      exact ⟨ret_bool (by simp), (below_box (by assumption)).then (Nat.le_refl _) hB2⟩
end Go.Proofs.YtnmeifobikemlaaDoor.lawUrlTexts
