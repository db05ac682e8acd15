/- strings.SplitSeq at one byte: its closure, whose state lies in a box. -/
import Derived.RangeFuncNested
import Derived.RangeFuncBound
import Derived.RangeFuncCalls
import Derived.RangeFuncLeaves
import Derived.Shelf.Abstract
import Derived.Shelf.RegionOpen
import Derived.WalkKit
import Derived.OwnWalkIn
import Derived.TacticsInMore
import Derived.LoopNIn
import Derived.LoopIn
import Derived.Test.YtinlahahbhpppaaFound
import Derived.Test.YtinlahahbhpppaaShelf
namespace Go.Proofs.Ytinlahahbhpppaa
open Go.RowKit Go.Shelf
attribute [local go_sem] Oper.semAt_some

def boxLen (bs : Nat) (W : World) : Nat := match W.cell? ⟨bs, 0, none⟩ with | some (.string s) => s.size | _ => 0

theorem cut_index (c : UInt8) : ∀ (l : List UInt8), (Lib.indexByte l c = -1 ∧ cutL c l = [l]) ∨ (∃ k : Nat, Lib.indexByte l c = k ∧ k < l.length ∧ cutL c l = l.take k :: cutL c (l.drop (k + 1)))
  | [] => .inl ⟨rfl, rfl⟩
  | x :: l => by
    by_cases h : x = c
    · subst h
      exact .inr ⟨0, by simp [Lib.indexByte], by simp, by simp [cutL]⟩
    · obtain ⟨p, r, e1, e2⟩ := cutL_skip h l
      have hb : (x == c) = false := by simpa using h
      rcases cut_index c l with ⟨i, e⟩ | ⟨k, i, hk, e⟩
      · refine .inl ⟨by simp [Lib.indexByte, hb, i], ?_⟩
        rw [e] at e1
        injection e1 with e3 e4
        rw [e2, ← e3, ← e4]
      · refine .inr ⟨k + 1, ?_, by simp; omega, ?_⟩
        · have : ((k : Int) == -1) = false := by simp
          simp [Lib.indexByte, hb, i, this]
        · rw [e] at e1
          injection e1 with e3 e4
          rw [e2, ← e3, ← e4]
          simp
end Go.Proofs.Ytinlahahbhpppaa
