/- world.Cells and the reference's: which cells an operation asks for. -/
import Derived.Test.YtmpgamnpmgedkaaDoorOpRight
import Derived.Deep.MidRow
namespace Go.Proofs.YtmpgamnpmgedkaaDoor
open Go.RowKit

def cellsT (n : Int) : Int × Bool := if n = 4 then (10, false) else if n = 5 then (10, true) else if n = 6 then (4, false) else if n = 7 then (4, true) else if n = 9 then (7, true) else if n = 10 then (8, true) else (1, true)
def cellsRes (o : OpV) : Int × Bool := if rightB o then cellsT o.what else (0, false)
theorem right_what {o : OpV} (h : rightB o = true) : 1 ≤ o.what ∧ o.what ≤ 10 := by
  unfold rightB at h
  simp only [Bool.and_eq_true, decide_eq_true_eq] at h
  exact ⟨h.1.1.1.1.1.1.1, h.1.1.1.1.1.1.2⟩
theorem ten {n : Int} (h1 : 1 ≤ n) (h2 : n ≤ 10) : n = 1 ∨ n = 2 ∨ n = 3 ∨ n = 4 ∨ n = 5 ∨ n = 6 ∨ n = 7 ∨ n = 8 ∨ n = 9 ∨ n = 10 := by omega
abbrev CellsPost (o : OpV) (w : World) (e : Ending) (w' : World) : Prop := e = .returned (.tuple #[.int .i64 (cellsRes o).1, .bool (cellsRes o).2]) ∧ Below w.heap.size w w'
theorem above_box {w wr : World} {c : Array Value} {T : TypeId} (h : Below (w.alloc (.cells c T)).heap.size (w.alloc (.cells c T)) wr) : Below (w.heap.size + 1) (w.alloc (.cells c T)) wr := by simpa using h
theorem infoOp : (Tryd.prog.info? 71).map (·.size) = some 22 := by kernel_rfl
/-- the whole of an operation is read: its cells lie in block b. (The walk's own step at 22 cells is beyond the kernel's memory.) -/
theorem wpList_load_op {ops : Array Oper} {rest : List Oper} {op : Oper} {a : Act} {w : World} {Q : Exit → Act → World → Prop} (hgd : op.guard = none) (x : Operand) (ho : op.op = .load 71 x)
    (b : Nat) (hx : a.eval x = .pointer (some ⟨b, 0, none⟩)) (c : Array Value) (hs : c.size = 22) (hc : ∀ (i : Nat) (v : Value), c[i]? = some v → w.cell? ⟨b, i, none⟩ = some v)
    (h : wpList Tryd.prog ops Q rest (a.put op.dst (.agg c)) w) : wpList Tryd.prog ops Q (op :: rest) a w :=
  wpList_load_mid hgd 71 x ho b 0 hx c.toList _ (fun j v hv => by rw [Nat.zero_add]; exact hc j v (by simpa using hv)) Tryd.underlying71 rfl (by rw [infoOp, Array.length_toList, hs]) (by simpa using h)
end Go.Proofs.YtmpgamnpmgedkaaDoor
