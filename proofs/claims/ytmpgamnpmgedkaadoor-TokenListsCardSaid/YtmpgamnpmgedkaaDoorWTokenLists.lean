/- TokenLists: the walk of the statement. -/
import Derived.Test.YtmpgamnpmgedkaaDoorList
import Derived.Test.YtmpgamnpmgedkaaDoorListR
import Derived.Test.YtmpgamnpmgedkaaDoorSameV
import Derived.Test.YtmpgamnpmgedkaaDoorRead
namespace Go.Proofs.YtmpgamnpmgedkaaDoor.lawTokenLists
open Go.ChangeShapes Go.WideShapes Go.ChangeAt Go.RowKit Go.WideElems
set_option maxRecDepth 100000 in
theorem walk (W : World) (hsh : W.ShapedOpen Tryd.prog) (hg : ErrType W) (s : ByteArray) (_hs : s.size ≤ reachBytes) :
    Calls Tryd.prog 10 #[.string s] W fun e w' => e = .returned (.bool true) ∧ Below W.heap.size W w' := by
  simp only [reachBytes] at _hs
  have hM := maxL_of hsh
  clear hsh
  by_cases hl : 300 < s.size
  · go_enter Tryd.func10, Tryd.ntmps10
    go_wp2
    go_ret
    exact ⟨rfl, Below.refl _ _⟩
  · have r1 := refList s W hM (by omega)
    have r2 := fun w => tokenList s w (by omega)
    go_enter Tryd.func10, Tryd.ntmps10
    go_wp2_with fail
    refine r1.mono ?_
    rintro e w1 ⟨v1, ss, rfl, hO1, hd1, hB1⟩
    obtain ⟨a1, c1, rfl, hS1, _, hm1, _⟩ := hO1.shape
    generalize hn : (listRes s.data.toList).2.1 = n
    generalize hm : (listRes s.data.toList).2.2 = m
    have hbox := (Below.refl w1.heap.size w1).alloc (Nat.le_refl _) (Obj.cells #[.int .i64 n, .int .i64 m] 38)
    have hnm := Lib.hid (And.intro hn hm)
    clear hn hm r1 hO1
    go_wp2_with fail
    refine (r2 _).mono ?_
    rintro e w2 ⟨v2, x, ss2, rfl, hO2, hd2, hE, _, hB2⟩
    obtain rfl : ss2 = ss := datas_inj (hd2.trans hd1.symm)
    obtain ⟨a2, c2, rfl, hS2, _, _, _⟩ := hO2.shape
    rw [hnm.out.1, hnm.out.2] at hE
    have q0 := box_cell (c := #[.int .i64 n, .int .i64 m]) (by simpa using hB2) 0 rfl
    have q1 := box_cell (c := #[.int .i64 n, .int .i64 m]) (by simpa using hB2) 1 rfl
    have hB3 := (hB1.then (Nat.le_refl _) hbox).then (Nat.le_refl _) hB2
    have hS1' := (hS1.later hbox).later hB2
    have hS1h := Lib.hid hS1'
    have hS2h := Lib.hid hS2
    have hp := placed_is n m (hg.later hB3) hE
    rw [show ((n == n) && (m == m)) = true by simp] at hp
    have hm1' : ss2.length ≤ maxLen := by omega
    clear hd1 hd2 hS1 hS2 hS1' hO2 hE r2 hbox
    go_wp2_with fail
    refine hp.mono ?_
    rintro e w3 ⟨rfl, hB4⟩
    have hB5 := hB3.then (Nat.le_refl _) hB4
    go_wp2_with fail
    refine (sameTexts_yes _ _ _ _ _ _ (hS2h.out.later hB4) (hS1h.out.later hB4) hm1').mono ?_
    rintro e w4 ⟨rfl, hB6⟩
    have hB7 := hB5.then (Nat.le_refl _) hB6
    go_wp2
    go_ret
    exact ⟨rfl, hB7⟩
end Go.Proofs.YtmpgamnpmgedkaaDoor.lawTokenLists
