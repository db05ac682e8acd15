/- pass.like and pass.alive. -/
import Derived.Test.YtnfcdccdmlodeaaGreatDoorPassE
namespace Go.Proofs.YtnfcdccdmlodeaaGreatDoor
open Go.RowKit Go.Deep
/-- a pass until another's time -/
abbrev Pass.until (p : Pass) (t : Int) : Pass := ⟨p.orig, p.dest, p.path, p.query, p.creds, p.method, p.head, t⟩
/-- whether two passes are for the same -/
def likeB (p q : Pass) : Bool := passEq (p.until q.till) q
set_option maxRecDepth 100000 in
set_option maxHeartbeats 2000000 in
theorem passLike (p q : Pass) (w : World) : Calls Tryz.prog 27 #[.agg p.arr, .agg q.arr] w fun e w' => e = .returned (.bool (likeB p q)) ∧ Below w.heap.size w w' := by
  have hal := Lib.hid (((Below.refl w.heap.size w).alloc (Nat.le_refl _) (.cells (p.until q.till).arr tPass)).alloc (by simp) (.cells q.arr tPass))
  have hp1 := (Blk.new w (p.until q.till).arr tPass).alloc (.cells q.arr tPass)
  have hq1 := Blk.new (w.alloc (.cells (p.until q.till).arr tPass)) q.arr tPass
  rw [World.size_alloc] at hq1
  have heq := fun w => pass_eql (p.until q.till) q w
  have hl : passEq (p.until q.till) q = likeB p q := rfl
  rw [hl] at heq
  generalize likeB p q = res at heq ⊢
  clear hl
  go_enter Tryz.func27, Tryz.ntmps27
  go_wp2_with (first
    | (refine wpList_load_blk rfl tPass _ rfl _ rfl hp1 _ Tryz.underlying79 rfl infoPass ?_)
    | (refine wpList_load_blk rfl tPass _ rfl _ rfl hq1 _ Tryz.underlying79 rfl infoPass ?_)
    | (refine wpList_eql_agg _ rfl .eql tPass tPass _ _ rfl (p.until q.till).arr q.arr (by rfl) (by rfl) noGuardPass _ (heq _) ?_))
  go_ret
  exact ⟨rfl, hal.out⟩
set_option maxRecDepth 100000 in
theorem passAlive (p : Pass) (now : Int) (w : World) : Calls Tryz.prog 29 #[.agg p.arr, .int .i64 now] w fun e w' => e = .returned (.bool (decide (now < p.till))) ∧ Below w.heap.size w w' := by
  have hal := (Below.refl w.heap.size w).alloc (Nat.le_refl _) (.cells p.arr tPass)
  go_enter Tryz.func29, Tryz.ntmps29
  go_wp2
  go_ret
  exact ⟨rfl, hal⟩
end Go.Proofs.YtnfcdccdmlodeaaGreatDoor
