/- A block of memory known whole; frames behind which one block alone has turned. Over any program. -/
import Derived.Test.YtfkflgcifddnnaaDoorBase
import Derived.Lib.Builder
import Derived.Deep.Draws
namespace Go.Proofs.YtfkflgcifddnnaaDoor
open Go.RowKit

/-- Block p holds these cells, none of them frozen. -/
def Blk (w : World) (p : Nat) (cs : Array Value) (T : TypeId) : Prop := w.heap[p]? = some (.cells cs T (0, 0))
section
variable {w w' : World} {p q : Nat} {cs : Array Value} {T : TypeId}
theorem Blk.lt (h : Blk w p cs T) : p < w.heap.size := (Array.getElem?_eq_some_iff.1 h).1
theorem Blk.cell (h : Blk w p cs T) (i : Nat) {v : Value} (hv : cs[i]? = some v) : w.cell? ⟨p, i, none⟩ = some v := by rw [Lib.cell_of_heap h]; exact hv
theorem Blk.free (h : Blk w p cs T) (i : Nat) : w.frozen? ⟨p, i, none⟩ = false := Lib.frozen_of_heap h i
theorem Blk.new (w : World) (cs : Array Value) (T : TypeId) : Blk (w.alloc (.cells cs T)) w.heap.size cs T := heap_alloc_new w _
theorem Blk.later (h : Blk w p cs T) (hb : Below w.heap.size w w') : Blk w' p cs T := (hb.block p h.lt).trans h
theorem Blk.grown {row : Option Nat} (h : Blk w p cs T) (hg : w.grownBy w' row) (hne : row ≠ some p) : Blk w' p cs T := (hg.block p h.lt (fun e => hne e.symm)).trans h
theorem Blk.alloc (h : Blk w p cs T) (o : Obj) : Blk (w.alloc o) p cs T := h.later ((Below.refl _ _).alloc (Nat.le_refl _) _)
theorem Blk.drew (h : Blk w p cs T) : Blk w.drew p cs T := h
theorem Blk.drewN (h : Blk w p cs T) (n : Nat) : Blk (w.drewN n) p cs T := h
theorem Blk.set (h : Blk w p cs T) (i : Nat) (v : Value) : Blk (w.setCell ⟨p, i, none⟩ v) p (cs.setIfInBounds i v) T := by
  unfold Blk at *
  simp [World.setCell, Array.getElem?_modify, h]
theorem Blk.far (h : Blk w p cs T) (a : Addr) (v : Value) (hne : a.block ≠ p) : Blk (w.setCell a v) p cs T := by
  unfold Blk at *
  rw [← h]
  exact Below.heap_setCell w a v p (fun e => hne e.symm)
theorem Blk.same {cs' : Array Value} {T' : TypeId} (h : Blk w p cs T) (h' : Blk w p cs' T') : cs = cs' := by
  unfold Blk at *; rw [h] at h'; cases h'; rfl

theorem only_refl (w : World) (row : Option Nat) : w.grownBy w row := ⟨rfl, rfl, rfl, Nat.le_refl _, fun _ _ _ => rfl⟩
theorem only_of_below {a w : World} (h : Below a.heap.size a w) (row : Option Nat) : a.grownBy w row := ⟨h.os, h.tape, h.output, h.size, fun i hi _ => h.block i hi⟩
theorem only_drewN {a w : World} {row : Option Nat} (h : a.grownBy w row) (n : Nat) : a.grownBy (w.drewN n) row := ⟨h.os, h.tape, h.output, h.size, h.block⟩
theorem only_drew {a w : World} {row : Option Nat} (h : a.grownBy w row) : a.grownBy w.drew row := ⟨h.os, h.tape, h.output, h.size, h.block⟩
theorem only_trans {a b c : World} {row : Option Nat} (h : a.grownBy b row) (k : b.grownBy c row) : a.grownBy c row :=
  ⟨k.os.trans h.os, k.tape.trans h.tape, k.output.trans h.output, Nat.le_trans h.size k.size, fun i hi hn => (k.block i (Nat.lt_of_lt_of_le hi h.size) hn).trans (h.block i hi hn)⟩
theorem only_then {a b c : World} {row : Option Nat} (h : a.grownBy b row) (k : Below b.heap.size b c) : a.grownBy c row := only_trans h (only_of_below k row)
theorem only_alloc {a w : World} {row : Option Nat} (h : a.grownBy w row) (o : Obj) : a.grownBy (w.alloc o) row :=
  ⟨h.os, h.tape, h.output, Nat.le_trans h.size (by simp), fun i hi hne => (Below.heap_alloc w o i (Nat.lt_of_lt_of_le hi h.size)).trans (h.block i hi hne)⟩
theorem only_setCell {a w : World} {g : Nat} (h : a.grownBy w (some g)) {p : Addr} (hp : p.block = g ∨ a.heap.size ≤ p.block) (u : Value) : a.grownBy (w.setCell p u) (some g) :=
  ⟨h.os, h.tape, h.output, by simpa [World.setCell] using h.size, fun i hi hne => (Below.heap_setCell w p u i (by
    rintro rfl
    rcases hp with hp | hp
    · exact hne (by rw [hp])
    · omega)).trans (h.block i hi hne)⟩
theorem only_grown {a b c : World} {row row' : Option Nat} (h : a.grownBy b row) (k : b.grownBy c row') (hr : ∀ j, row' = some j → row = some j ∨ a.heap.size ≤ j) : a.grownBy c row :=
  ⟨k.os.trans h.os, k.tape.trans h.tape, k.output.trans h.output, Nat.le_trans h.size k.size, fun i hi hn => (k.block i (Nat.lt_of_lt_of_le hi h.size) (fun e => by
    rcases hr i e.symm with e' | e'
    · exact hn e'.symm
    · omega)).trans (h.block i hi hn)⟩
/-- what was made since base, and turned there, is new to base -/
theorem below_only {B : Nat} {a w w' : World} {g : Nat} (h : Below B a w) (hg : w.grownBy w' (some g)) (hB : B ≤ w.heap.size) (hgB : B ≤ g) : Below B a w' :=
  h.grown hg hB (fun j hj => by cases hj; exact hgB)
end
end Go.Proofs.YtfkflgcifddnnaaDoor
