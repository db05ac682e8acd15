/- ProofBasics: proof.Basic returns what the reference's Basic returns, for any credentials: the walk of the statement. -/
import Derived.Test.YtdlhihfjigcimaaDoorBasic
import Derived.Test.YtdlhihfjigcimaaDoorAskV
import Derived.Test.YtdlhihfjigcimaaDoorErrs
namespace Go.Proofs.YtdlhihfjigcimaaDoor.lawProofBasics
open Go.ChangeShapes Go.WideShapes Go.ChangeAt Go.RowKit Go.WideElems
theorem basic_cases (u p : ByteArray) : basicRes u p = (1, ⟨#[]⟩) ∨ basicRes u p = (3, ⟨#[]⟩) ∨ basicRes u p = (0, basicB u p) := by
  unfold basicRes
  cases colonB u
  · cases (u.data.toList.any ctlB || p.data.toList.any ctlB)
    · exact .inr (.inr rfl)
    · exact .inr (.inl rfl)
  · exact .inl rfl
set_option maxRecDepth 100000 in
set_option maxHeartbeats 1600000 in
theorem walk (W : World) (_hsh : W.ShapedOpen Tryd.prog) (hd : Deb W) (hg : ErrType W) (cs : List Value) (hR : Rd Tryd.prog W 45 cs) :
    Calls Tryd.prog 6 #[.agg cs.toArray] W fun e w' => e = .returned (.bool true) ∧ Below W.heap.size W w' := by
  obtain ⟨u, p, rfl, hu, hp⟩ := creds_open hR
  clear hR _hsh
  simp only [reachBytes] at hu hp
  have hB0 := (Below.refl W.heap.size W).alloc (Nat.le_refl _) (.cells #[.string u, .string p] 45)
  by_cases h : 300 < u.size + p.size
  · go_enter Tryd.func6, Tryd.ntmps6
    go_wp2
    go_ret
    exact ⟨rfl, hB0⟩
  · have r1 := fun w' hd => refBasic u p w' (by omega) (by omega) hd
    have r2 := fun w' => proofBasic u p w' (by omega) (by omega)
    have hbx : Below (W.heap.size + 1) (W.alloc (.cells #[.string u, .string p] 45)) (W.alloc (.cells #[.string u, .string p] 45)) := Below.refl _ _
    rcases basic_cases u p with hc | hc | hc
    · rw [hc] at r1 r2
      have q1 : ∀ w', Deb w' → Calls Tryd.prog 19 #[.agg #[.string u, .string p]] w' fun e w2 => e = .returned (.tuple #[.string ⟨#[]⟩, .int .i64 1]) ∧ Below w'.heap.size w' w2 := r1
      have q2 : ∀ w', Calls Tryd.prog 20 #[.agg #[.string u, .string p]] w' fun e w2 => e = .returned (.tuple #[.string ⟨#[]⟩, .iface 35 (.int .i64 1)]) ∧ Below w'.heap.size w' w2 := r2
      clear r1 r2 hc
      go_enter Tryd.func6, Tryd.ntmps6
      have c0 := box_cell hbx 0 rfl
      have c1 := box_cell hbx 1 rfl
      go_wp2_with fail
      refine (q1 _ (hd.later hB0)).mono ?_
      rintro e w1 ⟨rfl, hB1⟩
      have hbx1 := hbx.then (by simp) hB1
      have hB2 := hB0.then (Nat.le_refl _) hB1
      have d0 := box_cell hbx1 0 rfl
      have d1 := box_cell hbx1 1 rfl
      clear c0 c1
      go_wp2_with fail
      refine (q2 _).mono ?_
      rintro e w2 ⟨rfl, hB3⟩
      have hB4 := hB2.then (Nat.le_refl _) hB3
      go_wp2_with fail
      refine (bare_is 1 (hg.later hB4) (ErrIs.num _ 1)).mono ?_
      rintro e w3 ⟨rfl, hB5⟩
      have hB6 := hB4.then (Nat.le_refl _) hB5
      go_wp2
      go_ret
      exact ⟨rfl, hB6⟩
    · rw [hc] at r1 r2
      have q1 : ∀ w', Deb w' → Calls Tryd.prog 19 #[.agg #[.string u, .string p]] w' fun e w2 => e = .returned (.tuple #[.string ⟨#[]⟩, .int .i64 3]) ∧ Below w'.heap.size w' w2 := r1
      have q2 : ∀ w', Calls Tryd.prog 20 #[.agg #[.string u, .string p]] w' fun e w2 => e = .returned (.tuple #[.string ⟨#[]⟩, .iface 35 (.int .i64 3)]) ∧ Below w'.heap.size w' w2 := r2
      clear r1 r2 hc
      go_enter Tryd.func6, Tryd.ntmps6
      have c0 := box_cell hbx 0 rfl
      have c1 := box_cell hbx 1 rfl
      go_wp2_with fail
      refine (q1 _ (hd.later hB0)).mono ?_
      rintro e w1 ⟨rfl, hB1⟩
      have hbx1 := hbx.then (by simp) hB1
      have hB2 := hB0.then (Nat.le_refl _) hB1
      have d0 := box_cell hbx1 0 rfl
      have d1 := box_cell hbx1 1 rfl
      clear c0 c1
      go_wp2_with fail
      refine (q2 _).mono ?_
      rintro e w2 ⟨rfl, hB3⟩
      have hB4 := hB2.then (Nat.le_refl _) hB3
      go_wp2_with fail
      refine (bare_is 3 (hg.later hB4) (ErrIs.num _ 3)).mono ?_
      rintro e w3 ⟨rfl, hB5⟩
      have hB6 := hB4.then (Nat.le_refl _) hB5
      go_wp2
      go_ret
      exact ⟨rfl, hB6⟩
    · rw [hc] at r1 r2
      generalize basicB u p = B at r1 r2
      have q1 : ∀ w', Deb w' → Calls Tryd.prog 19 #[.agg #[.string u, .string p]] w' fun e w2 => e = .returned (.tuple #[.string B, .int .i64 0]) ∧ Below w'.heap.size w' w2 := r1
      have q2 : ∀ w', Calls Tryd.prog 20 #[.agg #[.string u, .string p]] w' fun e w2 => e = .returned (.tuple #[.string B, .nilIface]) ∧ Below w'.heap.size w' w2 := r2
      clear r1 r2 hc
      go_enter Tryd.func6, Tryd.ntmps6
      have c0 := box_cell hbx 0 rfl
      have c1 := box_cell hbx 1 rfl
      go_wp2_with fail
      refine (q1 _ (hd.later hB0)).mono ?_
      rintro e w1 ⟨rfl, hB1⟩
      have hbx1 := hbx.then (by simp) hB1
      have hB2 := hB0.then (Nat.le_refl _) hB1
      have d0 := box_cell hbx1 0 rfl
      have d1 := box_cell hbx1 1 rfl
      clear c0 c1
      go_wp2_with fail
      refine (q2 _).mono ?_
      rintro e w2 ⟨rfl, hB3⟩
      have hB4 := hB2.then (Nat.le_refl _) hB3
      go_wp2_with fail
      refine (bare_is 0 (hg.later hB4) (ErrIs.none _)).mono ?_
      rintro e w3 ⟨rfl, hB5⟩
      have hB6 := hB4.then (Nat.le_refl _) hB5
      go_wp2
      go_ret
      exact ⟨rfl, hB6⟩
end Go.Proofs.YtdlhihfjigcimaaDoor.lawProofBasics
