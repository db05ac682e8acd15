/- The place of a byte in a text, and a text cut there. Plain lists; no program. -/
import Derived.Test.YtmpgamnpmgedkaaDoorStr
import Derived.Lib.IndexMore
import Derived.Lib.IndexBytes
namespace Go.Proofs.YtmpgamnpmgedkaaDoor
/-- ahead of the first c -/
def befL (c : UInt8) (l : List UInt8) : List UInt8 := l.takeWhile (fun x => x != c)
theorem befL_nil (c : UInt8) : befL c [] = [] := rfl
theorem befL_hit (c : UInt8) (l : List UInt8) : befL c (c :: l) = [] := by simp [befL]
theorem befL_skip {a c : UInt8} (h : a ≠ c) (l : List UInt8) : befL c (a :: l) = a :: befL c l := by unfold befL; rw [List.takeWhile_cons, if_pos (by simpa using h)]
theorem befL_len (c : UInt8) (l : List UInt8) : (befL c l).length ≤ l.length := (List.takeWhile_sublist _).length_le
theorem has_skip {a c : UInt8} (h : a ≠ c) (l : List UInt8) : (a :: l).contains c = l.contains c := by
  rw [List.contains_cons, show (c == a) = false by rw [beq_eq_false_iff_ne]; exact fun e => h e.symm, Bool.false_or]
theorem idx_has (c : UInt8) : ∀ l : List UInt8, l.contains c = true → Lib.indexByte l c = ((befL c l).length : Int)
  | [], h => by simp at h
  | a :: l, h => by
    by_cases ha : a = c
    · subst ha
      rw [befL_hit]; simp [Lib.indexByte]
    · rw [has_skip ha] at h
      have ih := idx_has c l h
      rw [befL_skip ha, Lib.indexByte, ih]
      simp only [beq_iff_eq, ha, if_false, List.length_cons]
      rw [if_neg (by omega)]
      omega
theorem idx_no (c : UInt8) : ∀ l : List UInt8, l.contains c = false → Lib.indexByte l c = -1
  | [], _ => rfl
  | a :: l, h => by
    have ha : a ≠ c := by rintro rfl; simp at h
    rw [has_skip ha] at h
    have ih := idx_no c l h
    rw [Lib.indexByte, ih]
    simp [ha]
theorem bef_lt (c : UInt8) : ∀ l : List UInt8, l.contains c = true → (befL c l).length < l.length
  | [], h => by simp at h
  | a :: l, h => by
    by_cases ha : a = c
    · subst ha
      rw [befL_hit]; simp
    · rw [has_skip ha] at h
      have ih := bef_lt c l h
      rw [befL_skip ha, List.length_cons, List.length_cons]; omega
theorem bef_take (c : UInt8) (l : List UInt8) : l.take (befL c l).length = befL c l := by
  unfold befL
  induction l with
  | nil => rfl
  | cons a l ih =>
    rw [List.takeWhile_cons]
    split
    · rw [List.length_cons, List.take_succ_cons, ih]
    · rfl
theorem bef_no (c : UInt8) : ∀ l : List UInt8, l.contains c = false → befL c l = l
  | [], _ => rfl
  | a :: l, h => by
    have ha : a ≠ c := by rintro rfl; simp at h
    rw [has_skip ha] at h
    rw [befL_skip ha, bef_no c l h]
theorem cut_has {c : UInt8} {l : List UInt8} (h : l.contains c = true) : Lib.cut l [c] = (befL c l, l.drop ((befL c l).length + 1), true) := by
  unfold Lib.cut
  rw [Lib.index_one, idx_has c l h, if_pos (by omega), Int.toNat_natCast, bef_take]
  rfl
theorem cut_no {c : UInt8} {l : List UInt8} (h : l.contains c = false) : Lib.cut l [c] = (l, [], false) := by
  unfold Lib.cut
  rw [Lib.index_one, idx_no c l h, if_neg (by decide)]
end Go.Proofs.YtmpgamnpmgedkaaDoor
