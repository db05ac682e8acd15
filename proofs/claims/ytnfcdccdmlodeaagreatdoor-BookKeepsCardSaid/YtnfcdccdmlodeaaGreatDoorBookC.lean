/- The reference's Sweep: its closure, and itself. -/
import Derived.Test.YtnfcdccdmlodeaaGreatDoorBookS
namespace Go.Proofs.YtnfcdccdmlodeaaGreatDoor
open Go.RowKit Go.Deep
set_option maxRecDepth 100000 in
set_option maxHeartbeats 2000000 in
theorem refSweep1 (x : Pass) (o : Org) (q : Nat) (w : World) (hq : Blk w q #[.bool o.sec, .string o.host, .int .i64 o.port] 29) :
    Calls Tryz.prog 37 #[.agg x.arr, .pointer (some ⟨q, 0, none⟩)] w fun e w' => e = .returned (.bool (!(orgE x.orig o || orgE x.dest o))) ∧ Below w.heap.size w w' := by
  have hal := Lib.hid ((Below.refl w.heap.size w).alloc (Nat.le_refl _) (.cells x.arr tPass))
  have hq1 := hq.later hal.out
  have c0 : _ = some (Value.bool o.sec) := hq1.cell 0 rfl
  have c1 : _ = some (Value.string o.host) := hq1.cell 1 rfl
  have c2 : _ = some (Value.int .i64 o.port) := hq1.cell 2 rfl
  have h1 := fun w => org_neq x.orig o w
  have h2 := fun w => org_neq x.dest o w
  clear hq hq1
  obtain ⟨⟨s1, g1, p1⟩, ⟨s2, g2, p2⟩, path, query, creds, m, h, u⟩ := x
  obtain ⟨so, ho, po⟩ := o
  generalize orgE ⟨s1, g1, p1⟩ ⟨so, ho, po⟩ = r1 at h1 ⊢
  generalize orgE ⟨s2, g2, p2⟩ ⟨so, ho, po⟩ = r2 at h2 ⊢
  cases r1 <;> cases r2
  all_goals
    go_enter Tryz.func37, Tryz.ntmps37
    go_wp2_with (first
      | (refine wpList_eql_agg _ rfl .neq 29 29 _ _ rfl #[.bool s1, .string g1, .int .i64 p1] #[.bool so, .string ho, .int .i64 po] (by rfl) (by rfl) noGuardOrg _ (h1 _) ?_)
      | (refine wpList_eql_agg _ rfl .neq 29 29 _ _ rfl #[.bool s2, .string g2, .int .i64 p2] #[.bool so, .string ho, .int .i64 po] (by rfl) (by rfl) noGuardOrg _ (h2 _) ?_))
    go_ret
    exact ⟨rfl, hal.out⟩
end Go.Proofs.YtnfcdccdmlodeaaGreatDoor
