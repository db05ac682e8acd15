/- WorldCells: world.Cells and the reference's Cells return the same, for any operation that is not wide: the walk of the statement. -/
import Derived.Test.YtmpgamnpmgedkaaDoorCellsW
import Derived.Test.YtmpgamnpmgedkaaDoorCellsM
import Derived.OpenShut
import Derived.BigRegion
namespace Go.Proofs.YtmpgamnpmgedkaaDoor.lawWorldCells
open Go.ChangeShapes Go.WideShapes Go.ChangeAt Go.RowKit Go.WideElems

set_option maxRecDepth 100000 in
set_option maxHeartbeats 4000000 in
theorem walk (W : World) (_hsh : W.ShapedOpen Tryd.prog) (cs : List Value) (hR : Rd Tryd.prog W 71 cs) :
    Calls Tryd.prog 12 #[.agg cs.toArray] W fun e w' => e = .returned (.bool true) ∧ Below W.heap.size W w' := by
  obtain ⟨o, rfl, hO⟩ := op_open hR
  clear hR _hsh
  rw [Array.toArray_toList]
  have hwi := fun (w' : World) (h : Below W.heap.size W w') => wide_says o w' (hO.later h)
  have hce := fun (w' : World) (h : Below W.heap.size W w') => worldCells o w' (hO.later h)
  have hre : wideB o = false → ∀ (w' : World), Below W.heap.size W w' → Calls Tryd.prog 44 #[.agg o.arr] w' (CellsPost o w') := fun hw w' h => by
    have hs := small_of (r := o.req) (by unfold wideB at hw; simp only [Bool.or_eq_false_iff] at hw; exact hw.1.1.1)
    have ht := hs.total
    unfold Req.total at ht
    exact refCells o w' (hO.later h) (by omega) (by omega)
  unfold CellsPost at hce hre
  generalize cellsRes o = c at hce hre
  obtain ⟨ci, cb⟩ := c
  generalize wideB o = b at hwi hre
  clear hO
  obtain ⟨what, ⟨part, ⟨s1, h1, p1⟩, ⟨s2, h2, p2⟩, path, query, method, addr, cap, heads, creds, body⟩, proxy, text, user, pass, cn, cert, all, n⟩ := o
  dsimp only [Req.arr, OpV.arr] at *
  have hl0 := box_all (Below.refl (W.heap.size + 1) (W.alloc (.cells (OpV.arr ⟨what, ⟨part, ⟨s1, h1, p1⟩, ⟨s2, h2, p2⟩, path, query, method, addr, cap, heads, creds, body⟩, proxy, text, user, pass, cn, cert, all, n⟩) 71)))
  dsimp only [Req.arr, OpV.arr] at hl0
  go_enter Tryd.func12, Tryd.ntmps12
  go_wp2_with (refine wpList_load_op rfl (.tmp 1) rfl W.heap.size rfl _ rfl hl0 ?_)
  refine (hwi _ ((Below.refl _ _).alloc (Nat.le_refl _) _)).mono ?_
  rintro e w1 ⟨rfl, hB1⟩
  have hBB1 := above_box hB1
  have hl1 := box_all hBB1
  clear hl0 hB1 hwi
  cases b
  · go_wp2_with (refine wpList_load_op rfl (.tmp 1) rfl W.heap.size rfl _ rfl hl1 ?_)
    refine (hce _ (below_box hBB1)).mono ?_
    rintro e w2 ⟨rfl, hB2⟩
    have hBB2 := hBB1.then (by simp) hB2
    have hl2 := box_all hBB2
    clear hl1 hce
    go_wp2_with (refine wpList_load_op rfl (.tmp 1) rfl W.heap.size rfl _ rfl hl2 ?_)
    refine (hre (by first | exact trivial | rfl) _ (below_box hBB2)).mono ?_
    rintro e w3 ⟨rfl, hB3⟩
    have hBB3 := hBB2.then (by simp) hB3
    clear hl2 hre
    go_wp2
    go_ret
    exact ⟨ret_bool (by simp), below_box hBB3⟩
  · go_wp2
    go_ret
    exact ⟨rfl, below_box hBB1⟩
end Go.Proofs.YtmpgamnpmgedkaaDoor.lawWorldCells
