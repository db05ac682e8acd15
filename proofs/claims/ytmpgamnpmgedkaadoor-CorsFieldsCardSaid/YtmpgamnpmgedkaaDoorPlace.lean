/- plain.Place, and the statements' bare and placed: what an error is. -/
import Derived.Test.YtmpgamnpmgedkaaDoorErrAs
namespace Go.Proofs.YtmpgamnpmgedkaaDoor
open Go.RowKit

set_option maxRecDepth 100000 in
theorem place_nil (w : World) : Calls Tryd.prog 121 #[.nilIface] w fun e w' => e = .returned (.tuple #[.int .i64 0, .int .i64 (-1)]) ∧ Below w.heap.size w w' := by
  go_enter Tryd.func121, Tryd.ntmps121
  go_wp2_with fail
  refine (tell_nil w).mono ?_
  rintro e w1 ⟨rfl, hB⟩
  go_wp2
  refine wp_loop_rounds 1 ?_
  rw [rounds_succ]
  go_wp2
  go_ret2
  exact ⟨rfl, hB⟩

set_option maxRecDepth 100000 in
theorem place_errno (n : Int) (w : World) (hg : ErrType w) : Calls Tryd.prog 121 #[.iface 36 (.int .i64 n)] w fun e w' => e = .returned (.tuple #[.int .i64 n, .int .i64 (-1)]) ∧ Below w.heap.size w w' := by
  have f1 := taErrAt
  have f2 := taErrUnwrap
  go_enter Tryd.func121, Tryd.ntmps121
  go_wp2_with fail
  refine (tell_errno n w hg).mono ?_
  rintro e w1 ⟨rfl, hB⟩
  go_wp2
  refine wp_loop_rounds 1 ?_
  rw [rounds_succ]
  go_wp2
  go_ret2
  exact ⟨rfl, hB⟩

set_option maxRecDepth 100000 in
theorem place_at (p : Nat) (n m : Int) (w : World) (hg : ErrType w) (hp : w.cell? ⟨p, 0, none⟩ = some (.int .i64 n)) (hm : w.cell? ⟨p, 1, none⟩ = some (.int .i64 m)) :
    Calls Tryd.prog 121 #[.iface 187 (.pointer (some ⟨p, 0, none⟩))] w fun e w' => e = .returned (.tuple #[.int .i64 n, .int .i64 m]) ∧ Below w.heap.size w w' := by
  have f1 := taAtAt
  go_enter Tryd.func121, Tryd.ntmps121
  go_wp2_with fail
  refine (tell_at p n w hg hp).mono ?_
  rintro e w1 ⟨rfl, hB⟩
  have hm1 := (hB.cell (p := ⟨p, 1, none⟩) (World.block_lt_of_cell? w _ hm)).trans hm
  go_wp2
  refine wp_loop_rounds 1 ?_
  rw [rounds_succ]
  go_wp2
  go_quiet (fail)
  go_wp2
  go_ret2
  exact ⟨rfl, below_drewN hB _⟩

/-- the error x is number n at place m (0 and -1: none) -/
def ErrIs (w : World) (x : Value) (n m : Int) : Prop :=
  (x = .nilIface ∧ n = 0 ∧ m = -1) ∨ (x = .iface 36 (.int .i64 n) ∧ m = -1) ∨
  ∃ p, x = .iface 187 (.pointer (some ⟨p, 0, none⟩)) ∧ w.cell? ⟨p, 0, none⟩ = some (.int .i64 n) ∧ w.cell? ⟨p, 1, none⟩ = some (.int .i64 m)
theorem ErrIs.none (w : World) : ErrIs w .nilIface 0 (-1) := .inl ⟨rfl, rfl, rfl⟩
theorem ErrIs.num (w : World) (n : Int) : ErrIs w (.iface 36 (.int .i64 n)) n (-1) := .inr (.inl ⟨rfl, rfl⟩)
theorem ErrIs.later {w w' : World} {x : Value} {n m : Int} (h : ErrIs w x n m) (hb : Below w.heap.size w w') : ErrIs w' x n m := by
  rcases h with h | h | ⟨p, h, h0, h1⟩
  · exact .inl h
  · exact .inr (.inl h)
  · exact .inr (.inr ⟨p, h, (hb.cell (World.block_lt_of_cell? w _ h0)).trans h0, (hb.cell (World.block_lt_of_cell? w _ h1)).trans h1⟩)
theorem place_is {x : Value} {n m : Int} {w : World} (hg : ErrType w) (hx : ErrIs w x n m) :
    Calls Tryd.prog 121 #[x] w fun e w' => e = .returned (.tuple #[.int .i64 n, .int .i64 m]) ∧ Below w.heap.size w w' := by
  rcases hx with ⟨rfl, rfl, rfl⟩ | ⟨rfl, rfl⟩ | ⟨p, rfl, h0, h1⟩
  · exact place_nil w
  · exact place_errno n w hg
  · exact place_at p n m w hg h0 h1

set_option maxRecDepth 100000 in
theorem bare_is {x : Value} {n m : Int} (k : Int) {w : World} (hg : ErrType w) (hx : ErrIs w x n m) :
    Calls Tryd.prog 53 #[x, .int .i64 k] w fun e w' => e = .returned (.bool ((n == k) && (m == -1))) ∧ Below w.heap.size w w' := by
  go_enter Tryd.func53, Tryd.ntmps53
  go_wp2_with fail
  refine (place_is hg hx).mono ?_
  rintro e w1 ⟨rfl, hB⟩
  go_wp2
  all_goals go_ret
  all_goals exact ⟨ret_bool (by simp [*]), hB⟩

set_option maxRecDepth 100000 in
theorem placed_is {x : Value} {n m : Int} (k j : Int) {w : World} (hg : ErrType w) (hx : ErrIs w x n m) :
    Calls Tryd.prog 30 #[x, .agg #[.int .i64 k, .int .i64 j]] w fun e w' => e = .returned (.bool ((n == k) && (m == j))) ∧ Below w.heap.size w w' := by
  have hB0 : Below w.heap.size w (w.alloc (.cells #[.int .i64 k, .int .i64 j] 38)) := (Below.refl _ _).alloc (Nat.le_refl _) _
  have hg0 := hg.later hB0
  have hx0 := hx.later hB0
  go_enter Tryd.func30, Tryd.ntmps30
  go_wp2_with fail
  refine (place_is hg0 hx0).mono ?_
  rintro e w1 ⟨rfl, hB⟩
  have h0 := box_cell (by simpa using hB) 0 rfl
  have h1 := box_cell (by simpa using hB) 1 rfl
  go_wp2
  all_goals go_ret
  all_goals exact ⟨ret_bool (by simp [*]), hB0.then (Nat.le_refl _) hB⟩

end Go.Proofs.YtmpgamnpmgedkaaDoor
