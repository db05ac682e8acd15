/- an event of the reference's is the program's; and as an argument. -/
import Derived.Test.YtdlhihfjigcimaaDoorLine
namespace Go.Proofs.YtdlhihfjigcimaaDoor
open Go.ChangeShapes Go.WideShapes Go.ChangeAt Go.RowKit Go.WideElems Go.Deep
abbrev tEvP : TypeId := 67
theorem infoEvP : (Tryd.prog.info? 67).map (·.size) = some 28 := by kernel_rfl
theorem infoOp : (Tryd.prog.info? 60).map (·.size) = some 22 := by kernel_rfl
theorem infoRep : (Tryd.prog.info? 62).map (·.size) = some 3 := by kernel_rfl
theorem ev_op {w : World} {p : Nat} {e : EvV} {T : TypeId} (h : Blk w p e.arr T) : w.rangeAt p 1 e.op.arr.toList := fun j v hv => by
  refine h.cell (1 + j) ?_
  have hj : j < e.op.arr.toList.length := (List.getElem?_eq_some_iff.1 hv).1
  have he : e.arr.toList = Value.int .i64 e.tab :: (e.op.arr.toList ++ [.int .i64 e.rw, .string e.head, .int .i64 e.rc, .int .i64 e.from_, .int .i64 e.upto]) := rfl
  rw [← Array.getElem?_toList, he, Nat.add_comm, List.getElem?_cons_succ, List.getElem?_append_left hj]
  exact hv
theorem ev_rep {w : World} {p : Nat} {e : EvV} {T : TypeId} (h : Blk w p e.arr T) : w.rangeAt p 23 [.int .i64 e.rw, .string e.head, .int .i64 e.rc] := fun j v hv => by
  match j, hv with
  | 0, hv => cases hv; exact h.cell 23 rfl
  | 1, hv => cases hv; exact h.cell 24 rfl
  | 2, hv => cases hv; exact h.cell 25 rfl
/-- one result, a struct in a block -/
theorem results_cell {P : Program} {fn : Func} {tmps : Array Value} {w : World} {v : Value} (a : Nat) (t : TypeId) (b : Nat) (hr : fn.results = #[.cell a t]) (ht : tmps.getD a undef = .pointer (some ⟨b, 0, none⟩)) (hl : (loadVar t ⟨b, 0, none⟩).run P w = .ok v w) :
    (results fn tmps).run P w = .ok v w := by
  have ha : (asAddr (tmps.getD a undef)).run P w = .ok ⟨b, 0, none⟩ w := by rw [ht]; rfl
  rw [Array.getD_eq_getD_getElem?] at ha
  unfold results
  rw [hr]
  simp [Sem.run_bind, ha, hl, Result.andThen]
theorem load_blk {P : Program} {w : World} {p : Nat} {cs : Array Value} {T ty : TypeId} {d : TypeDesc} (hb : Blk w p cs T) (hu : P.underlying ty = some d) (hd : d.isRow = true) (hi : (P.info? ty).map (·.size) = some cs.size) :
    (loadVar ty ⟨p, 0, none⟩).run P w = .ok (.agg cs) w := by
  have := run_loadVar_mid (P := P) w p 0 ty cs.toList d hb.range hu hd (by simpa using hi)
  simpa using this
set_option maxRecDepth 100000 in
set_option maxHeartbeats 4000000 in
theorem eventOf_is (e : EvV) (w : World) :
    Calls Tryd.prog 26 #[.agg e.arr] w fun x w' => x = .returned (.agg e.arr) ∧ Below w.heap.size w w' := by
  have hb1 : Blk ((w.alloc (.cells e.arr tEvR)).alloc (.cells zEv tEvP)) w.heap.size e.arr tEvR := (Blk.new w e.arr tEvR).alloc _
  have hb2 : Blk ((w.alloc (.cells e.arr tEvR)).alloc (.cells zEv tEvP)) (w.heap.size + 1) zEv tEvP := by simpa using Blk.new (w.alloc (.cells e.arr tEvR)) zEv tEvP
  have hBB : Below w.heap.size w ((w.alloc (.cells e.arr tEvR)).alloc (.cells zEv tEvP)) := ((Below.refl _ _).alloc (Nat.le_refl _) _).alloc (by simp) _
  have hone := ev_one e
  have r1 := ev_op hb1
  have r2 := ev_rep hb1
  have c0 := hb1.cell 0 rfl
  have c26 := hb1.cell 26 rfl
  have c27 := hb1.cell 27 rfl
  go_enter Tryd.func26, Tryd.ntmps26
  go_upto_region 1 with (fail)
  generalize (w.alloc (.cells e.arr tEvR)).alloc (.cells zEv tEvP) = w1 at hb1 hb2 hBB r1 r2 c0 c26 c27 ⊢
  (repeat (first
    | (go_big_may; refine wpList_load_mid rfl 60 _ rfl w.heap.size 1 rfl e.op.arr.toList _ r1 Tryd.underlying60 rfl infoOp ?_)
    | (go_big_may; refine wpList_load_mid rfl 62 _ rfl w.heap.size 23 rfl [.int .i64 e.rw, .string e.head, .int .i64 e.rc] _ r2 Tryd.underlying62 rfl infoRep ?_)
    | (go_big_may; refine wpList_store_blk rfl tEvP _ _ rfl _ rfl hb2 e.arr rfl rfl infoEvP hone ?_; intro wz hz hg)
    | go_values | go_skip | go_guarded | go_step | go_upon))
  (try simp only [Exit.inBlock, Exit.then])
  have hbl := below_only hBB hg (by have := hb2.lt; omega) (Nat.le_succ _)
  refine bodyPost_ret (v := .agg e.arr) ?_ rfl ⟨rfl, hbl⟩
  exact results_cell 2 tEvP (w.heap.size + 1) Tryd.results26 rfl (load_blk hz Tryd.underlying67 rfl infoEvP)
end Go.Proofs.YtdlhihfjigcimaaDoor
