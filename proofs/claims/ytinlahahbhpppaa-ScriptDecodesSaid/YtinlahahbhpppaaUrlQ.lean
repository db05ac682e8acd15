/- url.Origin: an origin out of a text. -/
import Derived.Test.YtinlahahbhpppaaUrlO
import Derived.Test.YtinlahahbhpppaaUrlS
namespace Go.Proofs.Ytinlahahbhpppaa
open Go.RowKit
def orV (o : Option (Bool × List UInt8 × Int)) (good bad : Value) : Value := match o with
  | some (sec, h, n) => .tuple #[.agg #[.bool sec, .string ⟨h.toArray⟩, .int .i64 n], good]
  | none => .tuple #[.agg #[.bool false, .string ⟨#[]⟩, .int .i64 0], bad]
theorem orV_some {o : Option (Bool × List UInt8 × Int)} {sec : Bool} {h : List UInt8} {n : Int} {good bad : Value} (e : o = some (sec, h, n)) : orV o good bad = .tuple #[.agg #[.bool sec, .string ⟨h.toArray⟩, .int .i64 n], good] := by rw [e]; rfl
theorem orV_none {o : Option (Bool × List UInt8 × Int)} {good bad : Value} (e : o = none) : orV o good bad = .tuple #[.agg #[.bool false, .string ⟨#[]⟩, .int .i64 0], bad] := by rw [e]; rfl
theorem schemeL_len {l r : List UInt8} {sec : Bool} (h : schemeL l = some (sec, r)) : r.length ≤ l.length := by
  unfold schemeL at h
  split at h
  · cases h; rw [List.length_drop]; omega
  · split at h
    · cases h; rw [List.length_drop]; omega
    · cases h
/-- the result's box -/
structure ZB (w W : World) : Prop where
  low : Below w.heap.size w W
  bs : w.heap.size < W.heap.size
  d0 : W.cell? ⟨w.heap.size, 0, none⟩ = some (.bool false)
  d1 : W.cell? ⟨w.heap.size, 1, none⟩ = some (.string ⟨#[]⟩)
  d2 : W.cell? ⟨w.heap.size, 2, none⟩ = some (.int .i64 0)
  f : ∀ i, W.frozen? ⟨w.heap.size, i, none⟩ = false
theorem ZB.start (w : World) : ZB w (w.alloc (Obj.cells #[.bool false, .string ⟨#[]⟩, .int .i64 0] 27)) :=
  have hR := Below.refl (w.heap.size + 1) (w.alloc (Obj.cells #[.bool false, .string ⟨#[]⟩, .int .i64 0] 27))
  ⟨below_box hR, by simp, box_cell hR 0 rfl, box_cell hR 1 rfl, box_cell hR 2 rfl, fun i => box_free hR i⟩
theorem ZB.later {w W W' : World} (h : ZB w W) (hB : Below W.heap.size W W') : ZB w W' :=
  ⟨h.low.then (Nat.le_refl _) hB, Nat.lt_of_lt_of_le h.bs hB.size, (hB.cell h.bs).trans h.d0, (hB.cell h.bs).trans h.d1, (hB.cell h.bs).trans h.d2, fun i => (hB.frozen h.bs).trans (h.f i)⟩
theorem ZB.box {w W : World} (h : ZB w W) (o : Obj) : ZB w (W.alloc o) := h.later ((Below.refl _ _).alloc (Nat.le_refl _) _)
end Go.Proofs.Ytinlahahbhpppaa
