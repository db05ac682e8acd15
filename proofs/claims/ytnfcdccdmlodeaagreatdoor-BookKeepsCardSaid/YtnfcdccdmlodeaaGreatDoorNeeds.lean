/- Needs, both: whether a request must be asked for first, if nothing is known. -/
import Derived.Test.YtnfcdccdmlodeaaGreatDoorCovR
namespace Go.Proofs.YtnfcdccdmlodeaaGreatDoor
open Go.RowKit
/-- two origins are one -/
def orgEq (o p : Org) : Bool := (o.sec == p.sec) && (o.host.toList == p.host.toList) && (o.port == p.port)
def needV (r : Req) : Bool := !orgEq r.orig r.dest && !covV r []
set_option maxRecDepth 100000 in
set_option maxHeartbeats 1000000 in
theorem corsNeeds (r : Req) (w : World) (hM : MaxL w) (hO : r.Ok w) (hl : r.heads.length ≤ 1000) (hz : ∀ p ∈ r.heads, p.1.size ≤ 1000 ∧ p.2.size ≤ 1000) :
    Calls Tryz.prog 41 #[.agg r.arr] w fun e w' => e = .returned (.bool (needV r)) ∧ Below w.heap.size w w' := by
  have hal := Lib.hid ((Below.refl w.heap.size w).alloc (Nat.le_refl _) (.cells r.arr tReq))
  have hcv := corsCovers r none 0 [] _ (hM.later hal.out) (hO.later hal.out) (fun i hi => absurd hi (by simp)) hl hz (by simp)
  have hr := Lib.hid (show needV r = (!orgEq r.orig r.dest && !covV r []) from rfl)
  generalize needV r = res at hr ⊢
  generalize covV r [] = cv at hr hcv
  clear hO hz hM
  obtain ⟨part, ⟨s1, h1, p1⟩, ⟨s2, h2, p2⟩, path, query, method, ad, cp, heads, creds, body⟩ := r
  by_cases es : s1 = s2
  · subst es
    by_cases eh : h1 = h2
    · subst eh
      by_cases ep : p1 = p2
      · subst ep
        have hr2 := Lib.hid (show res = false by rw [hr.out]; simp [orgEq])
        clear hr hcv
        go_enter Tryz.func41, Tryz.ntmps41
        go_wp2
        go_ret
        exact ⟨ret_bool hr2.out.symm, hal.out⟩
      · have hr2 := Lib.hid (show res = !cv by rw [hr.out]; simp [orgEq, ep])
        clear hr
        go_enter Tryz.func41, Tryz.ntmps41
        go_wp2_with fail
        refine hcv.mono ?_
        rintro e w2 ⟨rfl, hB2⟩
        have hB3 := Lib.hid (hal.out.then (Nat.le_refl _) hB2)
        clear hcv hB2
        go_wp2
        go_ret
        exact ⟨ret_bool hr2.out.symm, hB3.out⟩
    · have eh2 : ¬ h1.toList = h2.toList := by rw [Lib.toList_data, Lib.toList_data]; exact fun e => eh (ba_ext e)
      have hr2 := Lib.hid (show res = !cv by rw [hr.out]; simp [orgEq, eh2])
      clear hr
      go_enter Tryz.func41, Tryz.ntmps41
      go_wp2_with fail
      refine hcv.mono ?_
      rintro e w2 ⟨rfl, hB2⟩
      have hB3 := Lib.hid (hal.out.then (Nat.le_refl _) hB2)
      clear hcv hB2
      go_wp2
      go_ret
      exact ⟨ret_bool hr2.out.symm, hB3.out⟩
  · have hr2 := Lib.hid (show res = !cv by rw [hr.out]; simp [orgEq, es])
    clear hr
    go_enter Tryz.func41, Tryz.ntmps41
    go_wp2_with fail
    refine hcv.mono ?_
    rintro e w2 ⟨rfl, hB2⟩
    have hB3 := Lib.hid (hal.out.then (Nat.le_refl _) hB2)
    clear hcv hB2
    go_wp2
    go_ret
    exact ⟨ret_bool hr2.out.symm, hB3.out⟩
end Go.Proofs.YtnfcdccdmlodeaaGreatDoor
