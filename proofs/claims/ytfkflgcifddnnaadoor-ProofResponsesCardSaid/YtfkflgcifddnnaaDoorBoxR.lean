/- Results in a box (a struct of two cells): the reference's Good and Bare; the box read at the end. -/
import Derived.Test.YtfkflgcifddnnaaDoorBase
import Derived.OpenShut
namespace Go.Proofs.YtfkflgcifddnnaaDoor
open Go.RowKit
theorem box_free {w wr : World} {c : Array Value} {T : TypeId} {B : Nat} (h : Below (B + 1) (w.alloc (.cells c T)) wr) (i : Nat) (hB : B = w.heap.size := by rfl) : wr.frozen? ⟨B, i, none⟩ = false := by
  subst hB
  rw [h.frozen (p := ⟨w.heap.size, i, none⟩) (Nat.lt_succ_self _)]
  simp [World.frozen?_alloc_mark]
  try omega
theorem blanks_ascii : ∀ (j : Nat) (b : UInt8), (⟨#[32, 9]⟩ : ByteArray).data.toList[j]? = some b → b.toNat < 128 := by
  intro j b h
  match j, h with
  | 0, h => cases h; decide
  | 1, h => cases h; decide
theorem new_cell (w : World) (c : Array Value) (T : TypeId) (b i : Nat) (hb : b = w.heap.size) {v : Value} (hv : c[i]? = some v) : (w.alloc (.cells c T)).cell? ⟨b, i, none⟩ = some v := by
  subst hb; rw [World.cell?_alloc_mark]; exact hv
theorem set_two {wr : World} {B : Nat} {x0 x1 : Value} (y0 y1 : Value) (q0 : wr.cell? ⟨B, 0, none⟩ = some x0) (q1 : wr.cell? ⟨B, 1, none⟩ = some x1) :
    ((wr.setCell ⟨B, 0, none⟩ y0).setCell ⟨B, 1, none⟩ y1).cell? ⟨B, 0, none⟩ = some y0 ∧ ((wr.setCell ⟨B, 0, none⟩ y0).setCell ⟨B, 1, none⟩ y1).cell? ⟨B, 1, none⟩ = some y1 :=
  ⟨by
    rw [World.cell?_setCell_other]
    · exact World.cell?_setCell_same _ _ _ q0
    · simp, World.cell?_setCell_same _ _ _ (by
    rw [World.cell?_setCell_other]
    · exact q1
    · simp)⟩
theorem good_is (w : World) : Calls Tryd.prog 79 #[] w fun e w' => e = .returned (.agg #[.int .i64 0, .int .i64 (-1)]) ∧ Below w.heap.size w w' := by
  go_enter Tryd.func79, Tryd.ntmps79
  go_wp2
  go_returns
  exact ⟨rfl, (Below.refl _ _).alloc (Nat.le_refl _) _⟩
theorem bare_made (n : Int) (w : World) : Calls Tryd.prog 77 #[.int .i64 n] w fun e w' => e = .returned (.agg #[.int .i64 n, .int .i64 (-1)]) ∧ Below w.heap.size w w' := by
  go_enter Tryd.func77, Tryd.ntmps77
  go_wp2
  go_returns
  exact ⟨rfl, (Below.refl _ _).alloc (Nat.le_refl _) _⟩
end Go.Proofs.YtfkflgcifddnnaaDoor
