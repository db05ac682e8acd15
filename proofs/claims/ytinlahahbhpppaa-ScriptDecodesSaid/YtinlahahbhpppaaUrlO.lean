/- url.place: a host, and its port. -/
import Derived.Test.YtinlahahbhpppaaUrlRight
import Derived.Test.YtinlahahbhpppaaUrlP
import Derived.Test.YtinlahahbhpppaaFound
import Derived.Test.YtinlahahbhpppaaSplit
import Derived.Deep.RegionHeld3
import Derived.Lib.AtoiErrMem
namespace Go.Proofs.Ytinlahahbhpppaa
open Go.RowKit
def placeV (sec : Bool) (l : List UInt8) : Value := match placeL sec l with
  | some (h, n) => .tuple #[.agg #[.bool sec, .string ⟨h.toArray⟩, .int .i64 n], .bool (hostOk h && portOk n)]
  | none => .tuple #[.agg #[.bool false, .string ⟨#[]⟩, .int .i64 0], .bool false]
theorem placeV_some {sec : Bool} {l h : List UInt8} {n : Int} (e : placeL sec l = some (h, n)) : placeV sec l = .tuple #[.agg #[.bool sec, .string ⟨h.toArray⟩, .int .i64 n], .bool (hostOk h && portOk n)] := by unfold placeV; rw [e]
theorem placeV_none {sec : Bool} {l : List UInt8} (e : placeL sec l = none) : placeV sec l = .tuple #[.agg #[.bool false, .string ⟨#[]⟩, .int .i64 0], .bool false] := by unfold placeV; rw [e]
theorem digs_ascii : ∀ (j : Nat) (b : UInt8), (⟨#[48, 49, 50, 51, 52, 53, 54, 55, 56, 57]⟩ : ByteArray).data.toList[j]? = some b → b.toNat < 128 := by
  intro j b h
  have hm : b ∈ ([48, 49, 50, 51, 52, 53, 54, 55, 56, 57] : List UInt8) := List.mem_of_getElem? h
  simp at hm
  rcases hm with rfl | rfl | rfl | rfl | rfl | rfl | rfl | rfl | rfl | rfl <;> decide
theorem digs_is (c : UInt8) : (⟨#[48, 49, 50, 51, 52, 53, 54, 55, 56, 57]⟩ : ByteArray).data.toList.contains c = digB c :=
  byte_allU (q := fun c => ([48, 49, 50, 51, 52, 53, 54, 55, 56, 57] : List UInt8).contains c = digB c) (by decide +kernel) c
theorem bytesWorld_belowU (w : World) (e : TypeId) (s : ByteArray) : Below w.heap.size w (Lib.bytesWorld w e s) :=
  ⟨rfl, rfl, rfl, by rw [Lib.bytesWorld_size]; omega, fun j hj => Lib.bytesWorld_at_old w e s j hj⟩
theorem same_cell {w : World} {a : Addr} {v x : Value} (h : w.cell? a = some x) : (w.setCell a v).cell? a = some v := World.cell?_setCell_same _ _ _ h
theorem set_3 {w : World} {B : Nat} {x0 x1 x2 : Value} (y0 y1 y2 : Value) (h0 : w.cell? ⟨B, 0, none⟩ = some x0) (h1 : w.cell? ⟨B, 1, none⟩ = some x1) (h2 : w.cell? ⟨B, 2, none⟩ = some x2) :
    (((w.setCell ⟨B, 0, none⟩ y0).setCell ⟨B, 1, none⟩ y1).setCell ⟨B, 2, none⟩ y2).cell? ⟨B, 0, none⟩ = some y0 ∧ (((w.setCell ⟨B, 0, none⟩ y0).setCell ⟨B, 1, none⟩ y1).setCell ⟨B, 2, none⟩ y2).cell? ⟨B, 1, none⟩ = some y1 ∧ (((w.setCell ⟨B, 0, none⟩ y0).setCell ⟨B, 1, none⟩ y1).setCell ⟨B, 2, none⟩ y2).cell? ⟨B, 2, none⟩ = some y2 := by
  refine ⟨?_, ?_, ?_⟩
  · rw [World.cell?_setCell_other _ _ _ _ (by simp), World.cell?_setCell_other _ _ _ _ (by simp)]
    exact same_cell h0
  · rw [World.cell?_setCell_other _ _ _ _ (by simp)]
    refine same_cell (x := x1) ?_
    rw [World.cell?_setCell_other _ _ _ _ (by simp)]
    exact h1
  · refine same_cell (x := x2) ?_
    rw [World.cell?_setCell_other _ _ _ _ (by simp), World.cell?_setCell_other _ _ _ _ (by simp)]
    exact h2
theorem below_set3 {B p : Nat} {a w : World} (h : Below B a w) (hp : B ≤ p) {y0 y1 y2 : Value} : Below B a (((w.setCell ⟨p, 0, none⟩ y0).setCell ⟨p, 1, none⟩ y1).setCell ⟨p, 2, none⟩ y2) :=
  ((h.setCell hp _).setCell hp _).setCell hp _
theorem set_three {w : World} {B P : Nat} (hne : B ≠ P) {x0 x1 x2 y0 y1 y2 : Value} (h0 : w.cell? ⟨P, 0, none⟩ = some x0) (h1 : w.cell? ⟨P, 1, none⟩ = some x1) (h2 : w.cell? ⟨P, 2, none⟩ = some x2) :
    (((w.setCell ⟨B, 0, none⟩ y0).setCell ⟨B, 1, none⟩ y1).setCell ⟨B, 2, none⟩ y2).cell? ⟨P, 0, none⟩ = some x0 ∧ (((w.setCell ⟨B, 0, none⟩ y0).setCell ⟨B, 1, none⟩ y1).setCell ⟨B, 2, none⟩ y2).cell? ⟨P, 1, none⟩ = some x1 ∧ (((w.setCell ⟨B, 0, none⟩ y0).setCell ⟨B, 1, none⟩ y1).setCell ⟨B, 2, none⟩ y2).cell? ⟨P, 2, none⟩ = some x2 := by
  have hn : ∀ i j : Nat, (⟨P, i, none⟩ : Addr) ≠ ⟨B, j, none⟩ := by intro i j h; cases h; exact hne rfl
  have hn' : ∀ i j : Nat, (⟨B, j, none⟩ : Addr) ≠ ⟨P, i, none⟩ := by intro i j h; cases h; exact hne rfl
  refine ⟨?_, ?_, ?_⟩
  all_goals
    rw [World.cell?_setCell_other, World.cell?_setCell_other, World.cell?_setCell_other]
    · assumption
    all_goals first | exact hn _ _ | exact hn' _ _
/-- the two boxes of url.place: the result's (b) and the origin's (p) -/
structure PL (w W : World) (p : Nat) (x0 x1 x2 : Value) : Prop where
  low : Below w.heap.size w W
  ne : w.heap.size ≠ p
  le : w.heap.size ≤ p
  bs : w.heap.size < W.heap.size
  ps : p < W.heap.size
  c0 : W.cell? ⟨p, 0, none⟩ = some x0
  c1 : W.cell? ⟨p, 1, none⟩ = some x1
  c2 : W.cell? ⟨p, 2, none⟩ = some x2
  g : ∀ i, W.frozen? ⟨p, i, none⟩ = false
  d0 : W.cell? ⟨w.heap.size, 0, none⟩ = some (.bool false)
  d1 : W.cell? ⟨w.heap.size, 1, none⟩ = some (.string ⟨#[]⟩)
  d2 : W.cell? ⟨w.heap.size, 2, none⟩ = some (.int .i64 0)
  f : ∀ i, W.frozen? ⟨w.heap.size, i, none⟩ = false
theorem PL.start {w w1 : World} {x0 x1 x2 : Value} (hB : Below (w.heap.size + 1) (w.alloc (Obj.cells #[.bool false, .string ⟨#[]⟩, .int .i64 0] 27)) w1) (hs : w.heap.size + 1 ≤ w1.heap.size) :
    PL w (w1.alloc (Obj.cells #[x0, x1, x2] 27)) w1.heap.size x0 x1 x2 :=
  have hA : Below (w.heap.size + 1) (w.alloc (Obj.cells #[.bool false, .string ⟨#[]⟩, .int .i64 0] 27)) (w1.alloc (Obj.cells #[x0, x1, x2] 27)) := hB.alloc hs _
  have hR := Below.refl (w1.heap.size + 1) (w1.alloc (Obj.cells #[x0, x1, x2] 27))
  ⟨below_box hA, by omega, by omega, by simp; omega, by simp, box_cell hR 0 rfl, box_cell hR 1 rfl, box_cell hR 2 rfl, fun i => box_free hR i, box_cell hA 0 rfl, box_cell hA 1 rfl, box_cell hA 2 rfl, fun i => box_free hA i⟩
theorem PL.later {w W W' : World} {p : Nat} {x0 x1 x2 : Value} (h : PL w W p x0 x1 x2) (hB : Below W.heap.size W W') : PL w W' p x0 x1 x2 :=
  ⟨h.low.then (Nat.le_refl _) hB, h.ne, h.le, Nat.lt_of_lt_of_le h.bs hB.size, Nat.lt_of_lt_of_le h.ps hB.size, (hB.cell h.ps).trans h.c0, (hB.cell h.ps).trans h.c1, (hB.cell h.ps).trans h.c2, fun i => (hB.frozen h.ps).trans (h.g i),
    (hB.cell h.bs).trans h.d0, (hB.cell h.bs).trans h.d1, (hB.cell h.bs).trans h.d2, fun i => (hB.frozen h.bs).trans (h.f i)⟩
theorem PL.drawn {w W : World} {p : Nat} {x0 x1 x2 : Value} (h : PL w W p x0 x1 x2) (n : Nat) : PL w (W.drewN n) p x0 x1 x2 := h.later (below_drewN (Below.refl _ _) n)
theorem PL.oth {w W : World} {p : Nat} {x0 x1 x2 : Value} (h : PL w W p x0 x1 x2) (i j : Nat) (v : Value) : (W.setCell ⟨p, j, none⟩ v).cell? ⟨w.heap.size, i, none⟩ = W.cell? ⟨w.heap.size, i, none⟩ :=
  World.cell?_setCell_other _ _ _ _ (by intro e; cases e; exact h.ne rfl)
theorem PL.host {w W : World} {p : Nat} {x0 x1 x2 : Value} (h : PL w W p x0 x1 x2) (v : Value) : PL w (W.setCell ⟨p, 1, none⟩ v) p x0 v x2 :=
  ⟨h.low.setCell h.le _, h.ne, h.le, by simpa [World.setCell] using h.bs, by simpa [World.setCell] using h.ps, (World.cell?_setCell_other _ _ _ _ (by simp)).trans h.c0, same_cell h.c1, (World.cell?_setCell_other _ _ _ _ (by simp)).trans h.c2,
    fun i => (World.frozen?_setCell _ _ _ _).trans (h.g i), (h.oth _ _ _).trans h.d0, (h.oth _ _ _).trans h.d1, (h.oth _ _ _).trans h.d2, fun i => (World.frozen?_setCell _ _ _ _).trans (h.f i)⟩
theorem PL.port {w W : World} {p : Nat} {x0 x1 x2 : Value} (h : PL w W p x0 x1 x2) (v : Value) : PL w (W.setCell ⟨p, 2, none⟩ v) p x0 x1 v :=
  ⟨h.low.setCell h.le _, h.ne, h.le, by simpa [World.setCell] using h.bs, by simpa [World.setCell] using h.ps, (World.cell?_setCell_other _ _ _ _ (by simp)).trans h.c0, (World.cell?_setCell_other _ _ _ _ (by simp)).trans h.c1, same_cell h.c2,
    fun i => (World.frozen?_setCell _ _ _ _).trans (h.g i), (h.oth _ _ _).trans h.d0, (h.oth _ _ _).trans h.d1, (h.oth _ _ _).trans h.d2, fun i => (World.frozen?_setCell _ _ _ _).trans (h.f i)⟩
end Go.Proofs.Ytinlahahbhpppaa
