/- the reference's Cells (a map literal of pairs): which cells an operation asks for. -/
import Derived.Test.YtmpgamnpmgedkaaDoorCells
import Derived.Test.YtmpgamnpmgedkaaDoorPortMap
import Derived.Deep.QuietTactic
import Derived.BigQuiet
namespace Go.Proofs.YtmpgamnpmgedkaaDoor
open Go.RowKit Go.Maps
def arrElem (v : Value) : Option (DataW Unit × List MemPlace) :=
  match v with
  | .agg cs => match cs.toList with
    | [.int .i64 a, .int .i64 b] => some (.agg [.lit (.int .i64 a), .lit (.int .i64 b)], [])
    | _ => none
  | _ => none
theorem arrElem_is {v : Value} {a b : Int} {ps : List MemPlace} (h : arrElem v = some (.agg [.lit (.int .i64 a), .lit (.int .i64 b)], ps)) : v = .agg #[.int .i64 a, .int .i64 b] := by
  unfold arrElem at h
  split at h
  · rename_i cs
    split at h
    · rename_i x y hl
      simp at h
      obtain ⟨⟨rfl, rfl⟩, _⟩ := h
      rw [show cs = #[Value.int .i64 x, Value.int .i64 y] from Array.toList_inj.1 hl]
    · exact absurd h (by simp)
  · exact absurd h (by simp)
theorem lawInt : Keyed Tryd.prog 3 := int_keyed Tryd.underlying3
theorem zeroPair (w : World) : (zeroValue 193).run Tryd.prog w = .ok (.agg #[.int .i64 0, .int .i64 0]) w := by kernel_rfl
theorem index_pair0 (a b : Int) (w : World) : (Instr.index 193 (.agg #[.int .i64 a, .int .i64 b]) (.int .i64 0)).run Tryd.prog w = .ok (.int .i64 a) w := by kernel_rfl
theorem index_pair1 (a b : Int) (w : World) : (Instr.index 193 (.agg #[.int .i64 a, .int .i64 b]) (.int .i64 1)).run Tryd.prog w = .ok (.int .i64 b) w := by kernel_rfl
def litP (a b : Int) : DataW Unit := .agg [.lit (.int .i64 a), .lit (.int .i64 b)]
def pairB (b : Bool) : Int := if b then 1 else 0
def cellsM : DataW Unit := (((((((((((.map [] : DataW Unit).put (.int .i64 1) (litP 1 1)).put (.int .i64 2) (litP 1 1)).put (.int .i64 3) (litP 1 1)).put (.int .i64 4) (litP 10 0)).put (.int .i64 5) (litP 10 1)).put (.int .i64 6) (litP 4 0)).put (.int .i64 7) (litP 4 1)).put (.int .i64 8) (litP 1 1)).put (.int .i64 9) (litP 7 1)).put (.int .i64 10) (litP 8 1))
theorem cellsM_at {n : Int} (h1 : 1 ≤ n) (h2 : n ≤ 10) : cellsM.atKey (.int .i64 n) (litP 0 0) = litP (cellsT n).1 (pairB (cellsT n).2) := by
  rcases ten h1 h2 with rfl | rfl | rfl | rfl | rfl | rfl | rfl | rfl | rfl | rfl <;> rfl
set_option maxRecDepth 100000 in
set_option maxHeartbeats 4000000 in
theorem refCells_no (o : OpV) (w : World) (hO : o.Ok w) (hh1 : o.req.orig.host.size ≤ 1099511627776) (hh2 : o.req.dest.host.size ≤ 1099511627776) (hb : rightB o = false) : Calls Tryd.prog 44 #[.agg o.arr] w fun e w' => e = .returned (.tuple #[.int .i64 0, .bool false]) ∧ Below w.heap.size w w' := by
  have hr := fun (w' : World) (h : Below w.heap.size w w') => refOpRight o w' (hO.later h) hh1 hh2
  rw [hb] at hr
  clear hO hb hh1 hh2
  obtain ⟨what, ⟨part, ⟨s1, h1, p1⟩, ⟨s2, h2, p2⟩, path, query, method, addr, cap, heads, creds, body⟩, proxy, text, user, pass, cn, cert, all, n⟩ := o
  dsimp only [Req.arr, OpV.arr] at *
  have hl0 := box_all (Below.refl (w.heap.size + 1) (w.alloc (.cells (OpV.arr ⟨what, ⟨part, ⟨s1, h1, p1⟩, ⟨s2, h2, p2⟩, path, query, method, addr, cap, heads, creds, body⟩, proxy, text, user, pass, cn, cert, all, n⟩) 71)))
  dsimp only [Req.arr, OpV.arr] at hl0
  go_enter Tryd.func44, Tryd.ntmps44
  go_wp2_with (refine wpList_load_op rfl (.tmp 1) rfl w.heap.size rfl _ rfl hl0 ?_)
  refine (hr _ ((Below.refl _ _).alloc (Nat.le_refl _) _)).mono ?_
  rintro e w1 ⟨rfl, hB1⟩
  have hBB := above_box hB1
  have hBw := below_box hBB
  go_wp2
  go_returns
  exact ⟨rfl, hBw⟩
set_option maxRecDepth 100000 in
set_option maxHeartbeats 4000000 in
theorem refCells_yes (o : OpV) (w : World) (hO : o.Ok w) (hh1 : o.req.orig.host.size ≤ 1099511627776) (hh2 : o.req.dest.host.size ≤ 1099511627776) (hb : rightB o = true) : Calls Tryd.prog 44 #[.agg o.arr] w fun e w' => e = .returned (.tuple #[.int .i64 (cellsT o.what).1, .bool (cellsT o.what).2]) ∧ Below w.heap.size w w' := by
  obtain ⟨hx1, hx2⟩ := right_what hb
  have hwf := hO.what
  have hr := fun (w' : World) (h : Below w.heap.size w w') => refOpRight o w' (hO.later h) hh1 hh2
  rw [hb] at hr
  clear hO hb hh1 hh2
  obtain ⟨what, ⟨part, ⟨s1, h1, p1⟩, ⟨s2, h2, p2⟩, path, query, method, addr, cap, heads, creds, body⟩, proxy, text, user, pass, cn, cert, all, n⟩ := o
  have hmm := @run_makeMap Tryd.prog
  dsimp only [Req.arr, OpV.arr] at *
  have hl0 := box_all (Below.refl (w.heap.size + 1) (w.alloc (.cells (OpV.arr ⟨what, ⟨part, ⟨s1, h1, p1⟩, ⟨s2, h2, p2⟩, path, query, method, addr, cap, heads, creds, body⟩, proxy, text, user, pass, cn, cert, all, n⟩) 71)))
  dsimp only [Req.arr, OpV.arr] at hl0
  go_enter Tryd.func44, Tryd.ntmps44
  go_wp2_with (refine wpList_load_op rfl (.tmp 1) rfl w.heap.size rfl _ rfl hl0 ?_)
  refine (hr _ ((Below.refl _ _).alloc (Nat.le_refl _) _)).mono ?_
  rintro e w1 ⟨rfl, hB1⟩
  have hBB := above_box hB1
  have c0 := box_cell hBB 0 rfl
  have hs1 : w.heap.size < w1.heap.size := by have := hBB.size; simp at this; omega
  have hBw := below_box hBB
  clear hB1 hBB hr
  have hown : (w1.alloc (.map #[] 0)).ownsMap Tryd.prog 3 arrElem w1.heap.size 0 (.map []) := World.ownsMap_made _ _ _ _
  have hnx : Below w1.heap.size w1 (w1.alloc (.map #[] 0)) := (Below.refl _ _).alloc (Nat.le_refl _) _
  go_wp2_with (first
    | (refine wpList_insert_own _ rfl (.tmp 8) (.const (.int .i64 1)) (.tmp 9) 194 rfl 3 193 lawInt Tryd.underlying194 arrElem w1.heap.size 0 _ rfl hown (by decide) _ _ _ rfl rfl (keyOf_int_mk Tryd.underlying3 (by decide)) _ [] (by rfl) ?_; intro u1 hown1 hgrow1)
    | (refine wpList_insert_own _ rfl (.tmp 8) (.const (.int .i64 2)) (.tmp 10) 194 rfl 3 193 lawInt Tryd.underlying194 arrElem w1.heap.size 1 _ rfl hown1 (by decide) _ _ _ rfl rfl (keyOf_int_mk Tryd.underlying3 (by decide)) _ [] (by rfl) ?_; intro u2 hown2 hgrow2)
    | (refine wpList_insert_own _ rfl (.tmp 8) (.const (.int .i64 3)) (.tmp 11) 194 rfl 3 193 lawInt Tryd.underlying194 arrElem w1.heap.size 2 _ rfl hown2 (by decide) _ _ _ rfl rfl (keyOf_int_mk Tryd.underlying3 (by decide)) _ [] (by rfl) ?_; intro u3 hown3 hgrow3)
    | (refine wpList_insert_own _ rfl (.tmp 8) (.const (.int .i64 4)) (.tmp 12) 194 rfl 3 193 lawInt Tryd.underlying194 arrElem w1.heap.size 3 _ rfl hown3 (by decide) _ _ _ rfl rfl (keyOf_int_mk Tryd.underlying3 (by decide)) _ [] (by rfl) ?_; intro u4 hown4 hgrow4)
    | (refine wpList_insert_own _ rfl (.tmp 8) (.const (.int .i64 5)) (.tmp 13) 194 rfl 3 193 lawInt Tryd.underlying194 arrElem w1.heap.size 4 _ rfl hown4 (by decide) _ _ _ rfl rfl (keyOf_int_mk Tryd.underlying3 (by decide)) _ [] (by rfl) ?_; intro u5 hown5 hgrow5)
    | (refine wpList_insert_own _ rfl (.tmp 8) (.const (.int .i64 6)) (.tmp 14) 194 rfl 3 193 lawInt Tryd.underlying194 arrElem w1.heap.size 5 _ rfl hown5 (by decide) _ _ _ rfl rfl (keyOf_int_mk Tryd.underlying3 (by decide)) _ [] (by rfl) ?_; intro u6 hown6 hgrow6)
    | (refine wpList_insert_own _ rfl (.tmp 8) (.const (.int .i64 7)) (.tmp 15) 194 rfl 3 193 lawInt Tryd.underlying194 arrElem w1.heap.size 6 _ rfl hown6 (by decide) _ _ _ rfl rfl (keyOf_int_mk Tryd.underlying3 (by decide)) _ [] (by rfl) ?_; intro u7 hown7 hgrow7)
    | (refine wpList_insert_own _ rfl (.tmp 8) (.const (.int .i64 8)) (.tmp 16) 194 rfl 3 193 lawInt Tryd.underlying194 arrElem w1.heap.size 7 _ rfl hown7 (by decide) _ _ _ rfl rfl (keyOf_int_mk Tryd.underlying3 (by decide)) _ [] (by rfl) ?_; intro u8 hown8 hgrow8)
    | (refine wpList_insert_own _ rfl (.tmp 8) (.const (.int .i64 9)) (.tmp 17) 194 rfl 3 193 lawInt Tryd.underlying194 arrElem w1.heap.size 8 _ rfl hown8 (by decide) _ _ _ rfl rfl (keyOf_int_mk Tryd.underlying3 (by decide)) _ [] (by rfl) ?_; intro u9 hown9 hgrow9)
    | (refine wpList_insert_own _ rfl (.tmp 8) (.const (.int .i64 10)) (.tmp 18) 194 rfl 3 193 lawInt Tryd.underlying194 arrElem w1.heap.size 9 _ rfl hown9 (by decide) _ _ _ rfl rfl (keyOf_int_mk Tryd.underlying3 (by decide)) _ [] (by rfl) ?_; intro u10 hown10 hgrow10))
  have hn1 := hnx.grown hgrow1 hnx.size (fun j hj => by cases hj; exact Nat.le_refl _)
  have hn2 := hn1.grown hgrow2 hn1.size (fun j hj => by cases hj; exact Nat.le_refl _)
  have hn3 := hn2.grown hgrow3 hn2.size (fun j hj => by cases hj; exact Nat.le_refl _)
  have hn4 := hn3.grown hgrow4 hn3.size (fun j hj => by cases hj; exact Nat.le_refl _)
  have hn5 := hn4.grown hgrow5 hn4.size (fun j hj => by cases hj; exact Nat.le_refl _)
  have hn6 := hn5.grown hgrow6 hn5.size (fun j hj => by cases hj; exact Nat.le_refl _)
  have hn7 := hn6.grown hgrow7 hn6.size (fun j hj => by cases hj; exact Nat.le_refl _)
  have hn8 := hn7.grown hgrow8 hn7.size (fun j hj => by cases hj; exact Nat.le_refl _)
  have hn9 := hn8.grown hgrow9 hn8.size (fun j hj => by cases hj; exact Nat.le_refl _)
  have hn10 := hn9.grown hgrow10 hn9.size (fun j hj => by cases hj; exact Nat.le_refl _)
  have hm10 : u10.ownsMap Tryd.prog 3 arrElem w1.heap.size 10 cellsM := hown10
  have cc := (hn10.cell (p := ⟨w.heap.size, 0, none⟩) hs1).trans c0
  have hBx := hBw.then (Nat.le_refl _) hn10
  clear hown hown1 hown2 hown3 hown4 hown5 hown6 hown7 hown8 hown9 hown10 hgrow1 hgrow2 hgrow3 hgrow4 hgrow5 hgrow6 hgrow7 hgrow8 hgrow9 hgrow10 hn1 hn2 hn3 hn4 hn5 hn6 hn7 hn8 hn9 hn10 hnx hBw c0
  have hlk : ∀ u : World, u.ownsMap Tryd.prog 3 arrElem w1.heap.size 10 cellsM → (Instr.lookup 194 (.map (some w1.heap.size)) (.int .i64 what) false).run Tryd.prog u = .ok (.agg #[.int .i64 (cellsT what).1, .int .i64 (pairB (cellsT what).2)]) u := by
    intro u hu
    obtain ⟨v, ps, hrun, hv⟩ := hu.lookup lawInt Tryd.underlying194 (zeroPair _) (zd := litP 0 0) (zp := []) (by rfl) (keyOf_int_mk Tryd.underlying3 hwf)
    rw [cellsM_at hx1 hx2] at hv
    rw [hrun, arrElem_is hv]
  have hl2 := hlk _ hm10.drew
  generalize hA : (cellsT what).1 = a at hlk hl2 ⊢
  generalize hBb : (cellsT what).2 = b at hlk hl2 ⊢
  have hp : (pairB b == 1) = b := by cases b <;> rfl
  generalize pairB b = bb at hlk hl2 hp
  have hi0 := index_pair0 a bb
  have hi1 := index_pair1 a bb
  go_region
  go_wp2
  go_returns
  exact ⟨by first | rfl | (rw [hA, hBb]; rfl) | (rw [← hA, ← hBb]; rfl), by go_grown⟩
theorem refCells (o : OpV) (w : World) (hO : o.Ok w) (hh1 : o.req.orig.host.size ≤ 1099511627776) (hh2 : o.req.dest.host.size ≤ 1099511627776) : Calls Tryd.prog 44 #[.agg o.arr] w (CellsPost o w) := by
  unfold CellsPost cellsRes
  cases hb : rightB o
  · exact refCells_no o w hO hh1 hh2 hb
  · exact refCells_yes o w hO hh1 hh2 hb
end Go.Proofs.YtmpgamnpmgedkaaDoor
