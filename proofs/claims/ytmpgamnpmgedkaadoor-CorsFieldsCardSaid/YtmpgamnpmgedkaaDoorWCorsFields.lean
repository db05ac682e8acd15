/- CorsFields: the walk of the statement. -/
import Derived.Test.YtmpgamnpmgedkaaDoorFieldsC
import Derived.Test.YtmpgamnpmgedkaaDoorFieldsR
import Derived.Test.YtmpgamnpmgedkaaDoorSameV
import Derived.Test.YtmpgamnpmgedkaaDoorRead
namespace Go.Proofs.YtmpgamnpmgedkaaDoor.lawCorsFields
open Go.ChangeShapes Go.WideShapes Go.ChangeAt Go.RowKit Go.WideElems
set_option maxRecDepth 100000 in
theorem walk (W : World) (hsh : W.ShapedOpen Tryd.prog) (hg : ErrType W) (s : ByteArray) (_hs : s.size ≤ reachBytes) :
    Calls Tryd.prog 11 #[.string s] W fun e w' => e = .returned (.bool true) ∧ Below W.heap.size W w' := by
  simp only [reachBytes] at _hs
  have hM := maxL_of hsh
  clear hsh
  go_enter Tryd.func11, Tryd.ntmps11
  go_wp2_with fail
  refine (wordy_says s _ (by unfold maxLen; omega)).mono ?_
  rintro e w0 ⟨rfl, rfl⟩
  cases hb : wordyB s.size
  · have hl : s.size ≤ 3009 := by
      unfold wordyB at hb
      simp at hb
      omega
    clear hb
    have r1 := refFields s _ hM (by omega)
    have r2 := fun w hM => corsFields s w hM (by omega)
    go_wp2_with fail
    refine r1.mono ?_
    rintro e w1 ⟨v1, ss, rfl, hO1, hd1, hB1⟩
    have hlen : ss.length ≤ 1048576 := by
      have := fieldsRes_len s.data.toList
      rw [← hd1, pdatas_len] at this
      omega
    obtain ⟨a1, c1, rfl, hS1, _, hm1, _⟩ := OwnG.shape encPar_len hO1
    generalize hn : (fieldsRes s.data.toList).2.1 = n
    generalize hm : (fieldsRes s.data.toList).2.2 = m
    have hbox := (Below.refl w1.heap.size w1).alloc (Nat.le_refl _) (Obj.cells #[.int .i64 n, .int .i64 m] 38)
    have hnm := Lib.hid (And.intro hn hm)
    clear hn hm r1 hO1
    go_wp2_with fail
    refine (r2 _ (hM.later (hB1.then (Nat.le_refl _) hbox))).mono ?_
    rintro e w2 ⟨v2, x, ss2, rfl, hO2, hd2, hE, _, hB2⟩
    obtain rfl : ss2 = ss := pdatas_inj (hd2.trans hd1.symm)
    obtain ⟨a2, c2, rfl, hS2, _, _, _⟩ := OwnG.shape encPar_len hO2
    rw [hnm.out.1, hnm.out.2] at hE
    have q0 := box_cell (c := #[.int .i64 n, .int .i64 m]) (by simpa using hB2) 0 rfl
    have q1 := box_cell (c := #[.int .i64 n, .int .i64 m]) (by simpa using hB2) 1 rfl
    have hB3 := (hB1.then (Nat.le_refl _) hbox).then (Nat.le_refl _) hB2
    have hS1' := (hS1.later hbox).later hB2
    have hS1h := Lib.hid hS1'
    have hS2h := Lib.hid hS2
    have hp := placed_is n m (hg.later hB3) hE
    rw [show ((n == n) && (m == m)) = true by simp] at hp
    clear hd1 hd2 hS1 hS2 hS1' hO2 hE r2 hbox
    go_wp2_with fail
    refine hp.mono ?_
    rintro e w3 ⟨rfl, hB4⟩
    have hB5 := hB3.then (Nat.le_refl _) hB4
    go_wp2_with fail
    refine (sameParams_yes _ _ _ _ _ _ (parAt_row (hS2h.out.later hB4)) (parAt_row (hS1h.out.later hB4)) hlen).mono ?_
    rintro e w4 ⟨rfl, hB6⟩
    have hB7 := hB5.then (Nat.le_refl _) hB6
    go_wp2
    go_ret
    exact ⟨rfl, hB7⟩
  · go_wp2
    go_ret
    exact ⟨rfl, Below.refl _ _⟩
end Go.Proofs.YtmpgamnpmgedkaaDoor.lawCorsFields
