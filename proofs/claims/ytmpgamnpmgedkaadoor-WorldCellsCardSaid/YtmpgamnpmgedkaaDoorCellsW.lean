/- world.Cells: which cells an operation asks for. -/
import Derived.Test.YtmpgamnpmgedkaaDoorCells
namespace Go.Proofs.YtmpgamnpmgedkaaDoor
open Go.RowKit
set_option maxRecDepth 100000 in
set_option maxHeartbeats 4000000 in
theorem worldCells_no (o : OpV) (w : World) (hO : o.Ok w) (hb : rightB o = false) : Calls Tryd.prog 43 #[.agg o.arr] w fun e w' => e = .returned (.tuple #[.int .i64 0, .bool false]) ∧ Below w.heap.size w w' := by
  have hr := fun (w' : World) (h : Below w.heap.size w w') => worldRight o w' (hO.later h)
  rw [hb] at hr
  clear hO hb
  obtain ⟨what, ⟨part, ⟨s1, h1, p1⟩, ⟨s2, h2, p2⟩, path, query, method, addr, cap, heads, creds, body⟩, proxy, text, user, pass, cn, cert, all, n⟩ := o
  dsimp only [Req.arr, OpV.arr] at *
  have hl0 := box_all (Below.refl (w.heap.size + 1) (w.alloc (.cells (OpV.arr ⟨what, ⟨part, ⟨s1, h1, p1⟩, ⟨s2, h2, p2⟩, path, query, method, addr, cap, heads, creds, body⟩, proxy, text, user, pass, cn, cert, all, n⟩) 71)))
  dsimp only [Req.arr, OpV.arr] at hl0
  go_enter Tryd.func43, Tryd.ntmps43
  go_wp2_with (refine wpList_load_op rfl (.tmp 1) rfl w.heap.size rfl _ rfl hl0 ?_)
  refine (hr _ ((Below.refl _ _).alloc (Nat.le_refl _) _)).mono ?_
  rintro e w1 ⟨rfl, hB1⟩
  have hBB := above_box hB1
  have hBw := below_box hBB
  go_wp2
  go_returns
  exact ⟨rfl, hBw⟩
set_option maxRecDepth 100000 in
set_option maxHeartbeats 4000000 in
theorem worldCells_1 (o : OpV) (w : World) (hO : o.Ok w) (hb : rightB o = true) (hk : o.what = 1) : Calls Tryd.prog 43 #[.agg o.arr] w fun e w' => e = .returned (.tuple #[.int .i64 1, .bool true]) ∧ Below w.heap.size w w' := by
  have hr := fun (w' : World) (h : Below w.heap.size w w') => worldRight o w' (hO.later h)
  rw [hb] at hr
  clear hO hb
  obtain ⟨what, ⟨part, ⟨s1, h1, p1⟩, ⟨s2, h2, p2⟩, path, query, method, addr, cap, heads, creds, body⟩, proxy, text, user, pass, cn, cert, all, n⟩ := o
  dsimp only at hk
  subst hk
  dsimp only [Req.arr, OpV.arr] at *
  have hl0 := box_all (Below.refl (w.heap.size + 1) (w.alloc (.cells (OpV.arr ⟨1, ⟨part, ⟨s1, h1, p1⟩, ⟨s2, h2, p2⟩, path, query, method, addr, cap, heads, creds, body⟩, proxy, text, user, pass, cn, cert, all, n⟩) 71)))
  dsimp only [Req.arr, OpV.arr] at hl0
  go_enter Tryd.func43, Tryd.ntmps43
  go_wp2_with (refine wpList_load_op rfl (.tmp 1) rfl w.heap.size rfl _ rfl hl0 ?_)
  refine (hr _ ((Below.refl _ _).alloc (Nat.le_refl _) _)).mono ?_
  rintro e w1 ⟨rfl, hB1⟩
  have hBB := above_box hB1
  have c0 := box_cell hBB 0 rfl
  have hBw := below_box hBB
  go_wp2
  go_returns
  exact ⟨rfl, hBw⟩
set_option maxRecDepth 100000 in
set_option maxHeartbeats 4000000 in
theorem worldCells_2 (o : OpV) (w : World) (hO : o.Ok w) (hb : rightB o = true) (hk : o.what = 2) : Calls Tryd.prog 43 #[.agg o.arr] w fun e w' => e = .returned (.tuple #[.int .i64 1, .bool true]) ∧ Below w.heap.size w w' := by
  have hr := fun (w' : World) (h : Below w.heap.size w w') => worldRight o w' (hO.later h)
  rw [hb] at hr
  clear hO hb
  obtain ⟨what, ⟨part, ⟨s1, h1, p1⟩, ⟨s2, h2, p2⟩, path, query, method, addr, cap, heads, creds, body⟩, proxy, text, user, pass, cn, cert, all, n⟩ := o
  dsimp only at hk
  subst hk
  dsimp only [Req.arr, OpV.arr] at *
  have hl0 := box_all (Below.refl (w.heap.size + 1) (w.alloc (.cells (OpV.arr ⟨2, ⟨part, ⟨s1, h1, p1⟩, ⟨s2, h2, p2⟩, path, query, method, addr, cap, heads, creds, body⟩, proxy, text, user, pass, cn, cert, all, n⟩) 71)))
  dsimp only [Req.arr, OpV.arr] at hl0
  go_enter Tryd.func43, Tryd.ntmps43
  go_wp2_with (refine wpList_load_op rfl (.tmp 1) rfl w.heap.size rfl _ rfl hl0 ?_)
  refine (hr _ ((Below.refl _ _).alloc (Nat.le_refl _) _)).mono ?_
  rintro e w1 ⟨rfl, hB1⟩
  have hBB := above_box hB1
  have c0 := box_cell hBB 0 rfl
  have hBw := below_box hBB
  go_wp2
  go_returns
  exact ⟨rfl, hBw⟩
set_option maxRecDepth 100000 in
set_option maxHeartbeats 4000000 in
theorem worldCells_3 (o : OpV) (w : World) (hO : o.Ok w) (hb : rightB o = true) (hk : o.what = 3) : Calls Tryd.prog 43 #[.agg o.arr] w fun e w' => e = .returned (.tuple #[.int .i64 1, .bool true]) ∧ Below w.heap.size w w' := by
  have hr := fun (w' : World) (h : Below w.heap.size w w') => worldRight o w' (hO.later h)
  rw [hb] at hr
  clear hO hb
  obtain ⟨what, ⟨part, ⟨s1, h1, p1⟩, ⟨s2, h2, p2⟩, path, query, method, addr, cap, heads, creds, body⟩, proxy, text, user, pass, cn, cert, all, n⟩ := o
  dsimp only at hk
  subst hk
  dsimp only [Req.arr, OpV.arr] at *
  have hl0 := box_all (Below.refl (w.heap.size + 1) (w.alloc (.cells (OpV.arr ⟨3, ⟨part, ⟨s1, h1, p1⟩, ⟨s2, h2, p2⟩, path, query, method, addr, cap, heads, creds, body⟩, proxy, text, user, pass, cn, cert, all, n⟩) 71)))
  dsimp only [Req.arr, OpV.arr] at hl0
  go_enter Tryd.func43, Tryd.ntmps43
  go_wp2_with (refine wpList_load_op rfl (.tmp 1) rfl w.heap.size rfl _ rfl hl0 ?_)
  refine (hr _ ((Below.refl _ _).alloc (Nat.le_refl _) _)).mono ?_
  rintro e w1 ⟨rfl, hB1⟩
  have hBB := above_box hB1
  have c0 := box_cell hBB 0 rfl
  have hBw := below_box hBB
  go_wp2
  go_returns
  exact ⟨rfl, hBw⟩
set_option maxRecDepth 100000 in
set_option maxHeartbeats 4000000 in
theorem worldCells_4 (o : OpV) (w : World) (hO : o.Ok w) (hb : rightB o = true) (hk : o.what = 4) : Calls Tryd.prog 43 #[.agg o.arr] w fun e w' => e = .returned (.tuple #[.int .i64 10, .bool false]) ∧ Below w.heap.size w w' := by
  have hr := fun (w' : World) (h : Below w.heap.size w w') => worldRight o w' (hO.later h)
  rw [hb] at hr
  clear hO hb
  obtain ⟨what, ⟨part, ⟨s1, h1, p1⟩, ⟨s2, h2, p2⟩, path, query, method, addr, cap, heads, creds, body⟩, proxy, text, user, pass, cn, cert, all, n⟩ := o
  dsimp only at hk
  subst hk
  dsimp only [Req.arr, OpV.arr] at *
  have hl0 := box_all (Below.refl (w.heap.size + 1) (w.alloc (.cells (OpV.arr ⟨4, ⟨part, ⟨s1, h1, p1⟩, ⟨s2, h2, p2⟩, path, query, method, addr, cap, heads, creds, body⟩, proxy, text, user, pass, cn, cert, all, n⟩) 71)))
  dsimp only [Req.arr, OpV.arr] at hl0
  go_enter Tryd.func43, Tryd.ntmps43
  go_wp2_with (refine wpList_load_op rfl (.tmp 1) rfl w.heap.size rfl _ rfl hl0 ?_)
  refine (hr _ ((Below.refl _ _).alloc (Nat.le_refl _) _)).mono ?_
  rintro e w1 ⟨rfl, hB1⟩
  have hBB := above_box hB1
  have c0 := box_cell hBB 0 rfl
  have hBw := below_box hBB
  go_wp2
  go_returns
  exact ⟨rfl, hBw⟩
set_option maxRecDepth 100000 in
set_option maxHeartbeats 4000000 in
theorem worldCells_5 (o : OpV) (w : World) (hO : o.Ok w) (hb : rightB o = true) (hk : o.what = 5) : Calls Tryd.prog 43 #[.agg o.arr] w fun e w' => e = .returned (.tuple #[.int .i64 10, .bool true]) ∧ Below w.heap.size w w' := by
  have hr := fun (w' : World) (h : Below w.heap.size w w') => worldRight o w' (hO.later h)
  rw [hb] at hr
  clear hO hb
  obtain ⟨what, ⟨part, ⟨s1, h1, p1⟩, ⟨s2, h2, p2⟩, path, query, method, addr, cap, heads, creds, body⟩, proxy, text, user, pass, cn, cert, all, n⟩ := o
  dsimp only at hk
  subst hk
  dsimp only [Req.arr, OpV.arr] at *
  have hl0 := box_all (Below.refl (w.heap.size + 1) (w.alloc (.cells (OpV.arr ⟨5, ⟨part, ⟨s1, h1, p1⟩, ⟨s2, h2, p2⟩, path, query, method, addr, cap, heads, creds, body⟩, proxy, text, user, pass, cn, cert, all, n⟩) 71)))
  dsimp only [Req.arr, OpV.arr] at hl0
  go_enter Tryd.func43, Tryd.ntmps43
  go_wp2_with (refine wpList_load_op rfl (.tmp 1) rfl w.heap.size rfl _ rfl hl0 ?_)
  refine (hr _ ((Below.refl _ _).alloc (Nat.le_refl _) _)).mono ?_
  rintro e w1 ⟨rfl, hB1⟩
  have hBB := above_box hB1
  have c0 := box_cell hBB 0 rfl
  have hBw := below_box hBB
  go_wp2
  go_returns
  exact ⟨rfl, hBw⟩
set_option maxRecDepth 100000 in
set_option maxHeartbeats 4000000 in
theorem worldCells_6 (o : OpV) (w : World) (hO : o.Ok w) (hb : rightB o = true) (hk : o.what = 6) : Calls Tryd.prog 43 #[.agg o.arr] w fun e w' => e = .returned (.tuple #[.int .i64 4, .bool false]) ∧ Below w.heap.size w w' := by
  have hr := fun (w' : World) (h : Below w.heap.size w w') => worldRight o w' (hO.later h)
  rw [hb] at hr
  clear hO hb
  obtain ⟨what, ⟨part, ⟨s1, h1, p1⟩, ⟨s2, h2, p2⟩, path, query, method, addr, cap, heads, creds, body⟩, proxy, text, user, pass, cn, cert, all, n⟩ := o
  dsimp only at hk
  subst hk
  dsimp only [Req.arr, OpV.arr] at *
  have hl0 := box_all (Below.refl (w.heap.size + 1) (w.alloc (.cells (OpV.arr ⟨6, ⟨part, ⟨s1, h1, p1⟩, ⟨s2, h2, p2⟩, path, query, method, addr, cap, heads, creds, body⟩, proxy, text, user, pass, cn, cert, all, n⟩) 71)))
  dsimp only [Req.arr, OpV.arr] at hl0
  go_enter Tryd.func43, Tryd.ntmps43
  go_wp2_with (refine wpList_load_op rfl (.tmp 1) rfl w.heap.size rfl _ rfl hl0 ?_)
  refine (hr _ ((Below.refl _ _).alloc (Nat.le_refl _) _)).mono ?_
  rintro e w1 ⟨rfl, hB1⟩
  have hBB := above_box hB1
  have c0 := box_cell hBB 0 rfl
  have hBw := below_box hBB
  go_wp2
  go_returns
  exact ⟨rfl, hBw⟩
set_option maxRecDepth 100000 in
set_option maxHeartbeats 4000000 in
theorem worldCells_7 (o : OpV) (w : World) (hO : o.Ok w) (hb : rightB o = true) (hk : o.what = 7) : Calls Tryd.prog 43 #[.agg o.arr] w fun e w' => e = .returned (.tuple #[.int .i64 4, .bool true]) ∧ Below w.heap.size w w' := by
  have hr := fun (w' : World) (h : Below w.heap.size w w') => worldRight o w' (hO.later h)
  rw [hb] at hr
  clear hO hb
  obtain ⟨what, ⟨part, ⟨s1, h1, p1⟩, ⟨s2, h2, p2⟩, path, query, method, addr, cap, heads, creds, body⟩, proxy, text, user, pass, cn, cert, all, n⟩ := o
  dsimp only at hk
  subst hk
  dsimp only [Req.arr, OpV.arr] at *
  have hl0 := box_all (Below.refl (w.heap.size + 1) (w.alloc (.cells (OpV.arr ⟨7, ⟨part, ⟨s1, h1, p1⟩, ⟨s2, h2, p2⟩, path, query, method, addr, cap, heads, creds, body⟩, proxy, text, user, pass, cn, cert, all, n⟩) 71)))
  dsimp only [Req.arr, OpV.arr] at hl0
  go_enter Tryd.func43, Tryd.ntmps43
  go_wp2_with (refine wpList_load_op rfl (.tmp 1) rfl w.heap.size rfl _ rfl hl0 ?_)
  refine (hr _ ((Below.refl _ _).alloc (Nat.le_refl _) _)).mono ?_
  rintro e w1 ⟨rfl, hB1⟩
  have hBB := above_box hB1
  have c0 := box_cell hBB 0 rfl
  have hBw := below_box hBB
  go_wp2
  go_returns
  exact ⟨rfl, hBw⟩
set_option maxRecDepth 100000 in
set_option maxHeartbeats 4000000 in
theorem worldCells_8 (o : OpV) (w : World) (hO : o.Ok w) (hb : rightB o = true) (hk : o.what = 8) : Calls Tryd.prog 43 #[.agg o.arr] w fun e w' => e = .returned (.tuple #[.int .i64 1, .bool true]) ∧ Below w.heap.size w w' := by
  have hr := fun (w' : World) (h : Below w.heap.size w w') => worldRight o w' (hO.later h)
  rw [hb] at hr
  clear hO hb
  obtain ⟨what, ⟨part, ⟨s1, h1, p1⟩, ⟨s2, h2, p2⟩, path, query, method, addr, cap, heads, creds, body⟩, proxy, text, user, pass, cn, cert, all, n⟩ := o
  dsimp only at hk
  subst hk
  dsimp only [Req.arr, OpV.arr] at *
  have hl0 := box_all (Below.refl (w.heap.size + 1) (w.alloc (.cells (OpV.arr ⟨8, ⟨part, ⟨s1, h1, p1⟩, ⟨s2, h2, p2⟩, path, query, method, addr, cap, heads, creds, body⟩, proxy, text, user, pass, cn, cert, all, n⟩) 71)))
  dsimp only [Req.arr, OpV.arr] at hl0
  go_enter Tryd.func43, Tryd.ntmps43
  go_wp2_with (refine wpList_load_op rfl (.tmp 1) rfl w.heap.size rfl _ rfl hl0 ?_)
  refine (hr _ ((Below.refl _ _).alloc (Nat.le_refl _) _)).mono ?_
  rintro e w1 ⟨rfl, hB1⟩
  have hBB := above_box hB1
  have c0 := box_cell hBB 0 rfl
  have hBw := below_box hBB
  go_wp2
  go_returns
  exact ⟨rfl, hBw⟩
set_option maxRecDepth 100000 in
set_option maxHeartbeats 4000000 in
theorem worldCells_9 (o : OpV) (w : World) (hO : o.Ok w) (hb : rightB o = true) (hk : o.what = 9) : Calls Tryd.prog 43 #[.agg o.arr] w fun e w' => e = .returned (.tuple #[.int .i64 7, .bool true]) ∧ Below w.heap.size w w' := by
  have hr := fun (w' : World) (h : Below w.heap.size w w') => worldRight o w' (hO.later h)
  rw [hb] at hr
  clear hO hb
  obtain ⟨what, ⟨part, ⟨s1, h1, p1⟩, ⟨s2, h2, p2⟩, path, query, method, addr, cap, heads, creds, body⟩, proxy, text, user, pass, cn, cert, all, n⟩ := o
  dsimp only at hk
  subst hk
  dsimp only [Req.arr, OpV.arr] at *
  have hl0 := box_all (Below.refl (w.heap.size + 1) (w.alloc (.cells (OpV.arr ⟨9, ⟨part, ⟨s1, h1, p1⟩, ⟨s2, h2, p2⟩, path, query, method, addr, cap, heads, creds, body⟩, proxy, text, user, pass, cn, cert, all, n⟩) 71)))
  dsimp only [Req.arr, OpV.arr] at hl0
  go_enter Tryd.func43, Tryd.ntmps43
  go_wp2_with (refine wpList_load_op rfl (.tmp 1) rfl w.heap.size rfl _ rfl hl0 ?_)
  refine (hr _ ((Below.refl _ _).alloc (Nat.le_refl _) _)).mono ?_
  rintro e w1 ⟨rfl, hB1⟩
  have hBB := above_box hB1
  have c0 := box_cell hBB 0 rfl
  have hBw := below_box hBB
  go_wp2
  go_returns
  exact ⟨rfl, hBw⟩
set_option maxRecDepth 100000 in
set_option maxHeartbeats 4000000 in
theorem worldCells_10 (o : OpV) (w : World) (hO : o.Ok w) (hb : rightB o = true) (hk : o.what = 10) : Calls Tryd.prog 43 #[.agg o.arr] w fun e w' => e = .returned (.tuple #[.int .i64 8, .bool true]) ∧ Below w.heap.size w w' := by
  have hr := fun (w' : World) (h : Below w.heap.size w w') => worldRight o w' (hO.later h)
  rw [hb] at hr
  clear hO hb
  obtain ⟨what, ⟨part, ⟨s1, h1, p1⟩, ⟨s2, h2, p2⟩, path, query, method, addr, cap, heads, creds, body⟩, proxy, text, user, pass, cn, cert, all, n⟩ := o
  dsimp only at hk
  subst hk
  dsimp only [Req.arr, OpV.arr] at *
  have hl0 := box_all (Below.refl (w.heap.size + 1) (w.alloc (.cells (OpV.arr ⟨10, ⟨part, ⟨s1, h1, p1⟩, ⟨s2, h2, p2⟩, path, query, method, addr, cap, heads, creds, body⟩, proxy, text, user, pass, cn, cert, all, n⟩) 71)))
  dsimp only [Req.arr, OpV.arr] at hl0
  go_enter Tryd.func43, Tryd.ntmps43
  go_wp2_with (refine wpList_load_op rfl (.tmp 1) rfl w.heap.size rfl _ rfl hl0 ?_)
  refine (hr _ ((Below.refl _ _).alloc (Nat.le_refl _) _)).mono ?_
  rintro e w1 ⟨rfl, hB1⟩
  have hBB := above_box hB1
  have c0 := box_cell hBB 0 rfl
  have hBw := below_box hBB
  go_wp2
  go_returns
  exact ⟨rfl, hBw⟩
theorem worldCells (o : OpV) (w : World) (hO : o.Ok w) : Calls Tryd.prog 43 #[.agg o.arr] w (CellsPost o w) := by
  unfold CellsPost cellsRes
  cases hb : rightB o
  · exact worldCells_no o w hO hb
  · obtain ⟨h1, h2⟩ := right_what hb
    rcases ten h1 h2 with hk | hk | hk | hk | hk | hk | hk | hk | hk | hk <;> rw [hk]
    · exact worldCells_1 o w hO hb hk
    · exact worldCells_2 o w hO hb hk
    · exact worldCells_3 o w hO hb hk
    · exact worldCells_4 o w hO hb hk
    · exact worldCells_5 o w hO hb hk
    · exact worldCells_6 o w hO hb hk
    · exact worldCells_7 o w hO hb hk
    · exact worldCells_8 o w hO hb hk
    · exact worldCells_9 o w hO hb hk
    · exact worldCells_10 o w hO hb hk
end Go.Proofs.YtmpgamnpmgedkaaDoor
