/- token.Quote and the reference's Quote: a text between marks. -/
import Derived.Test.YtmpgamnpmgedkaaDoorOwnB
import Derived.Test.YtmpgamnpmgedkaaDoorTextB
import Derived.Test.YtmpgamnpmgedkaaDoorToken
import Derived.Test.YtmpgamnpmgedkaaDoorJoin
import Derived.Test.YtmpgamnpmgedkaaDoorPlace
namespace Go.Proofs.YtmpgamnpmgedkaaDoor
open Go.RowKit

theorem tokenText (c : UInt8) (w : World) : Calls Tryd.prog 260 #[.int .u8 c.toNat] w fun e w' => e = .returned (.bool (textB c)) ∧ w = w' := by
  have hb := bd8 c
  go_enter Tryd.func260, Tryd.ntmps260
  go_wp2
  all_goals go_ret
  all_goals
    refine ⟨ret_bool ?_, rfl⟩
    unfold textB
    rw [Bool.eq_iff_iff]
    simp
    try omega
theorem refTextByte (c : UInt8) (w : World) : Calls Tryd.prog 100 #[.int .u8 c.toNat] w fun e w' => e = .returned (.bool (textB c)) ∧ w = w' := by
  have hb := bd8 c
  go_enter Tryd.func100, Tryd.ntmps100
  go_wp2
  all_goals go_ret
  all_goals
    refine ⟨ret_bool ?_, rfl⟩
    unfold textB
    rw [Bool.eq_iff_iff]
    simp
    try omega

/-- a byte as it stands between marks -/
def esc (c : UInt8) : List UInt8 := if c.toNat = 34 ∨ c.toNat = 92 then [92, c] else [c]
def escs (l : List UInt8) : List UInt8 := l.flatMap esc
theorem escs_succ (l : List UInt8) (k : Nat) (h : k < l.length) : escs (l.take (k + 1)) = escs (l.take k) ++ esc l[k] := by
  unfold escs; rw [List.take_succ_eq_append_getElem h, List.flatMap_append]; simp
theorem escs_len (l : List UInt8) : (escs l).length ≤ 2 * l.length := by
  induction l with
  | nil => simp [escs]
  | cons c l ih =>
    have : (esc c).length ≤ 2 := by unfold esc; split <;> simp
    simp only [escs, List.flatMap_cons, List.length_append, List.length_cons] at *
    omega
theorem escs_take_len (l : List UInt8) (k : Nat) (h : k ≤ l.length) : (escs (l.take k)).length ≤ 2 * k := by
  have := escs_len (l.take k); rw [List.length_take, Nat.min_eq_left h] at this; exact this
/-- between marks -/
def quoted (l : List UInt8) : List UInt8 := 34 :: (escs l ++ [34])
def quotable (l : List UInt8) : Bool := l.all textB

theorem ret2 {a a' b b' : Value} (h : a = a') (h' : b = b') : Ending.returned (.tuple #[a, b]) = .returned (.tuple #[a', b']) := by rw [h, h']

def quoteRes (l : List UInt8) (bad good : Value) : Value := if quotable l then .tuple #[.string ⟨(quoted l).toArray⟩, good] else .tuple #[.string ⟨#[]⟩, bad]

theorem ext_one (s : ByteArray) (k : Nat) (h : k < s.size) : s.extract k (k + 1) = ⟨#[s[k]]⟩ := by
  have h' : k < s.data.toList.length := by rw [← size_data]; exact h
  rw [Lib.extract_eq]
  congr 1
  rw [show k + 1 - k = 1 by omega, List.drop_eq_getElem_cons h', data_getElem s k h h']
  rfl

end Go.Proofs.YtmpgamnpmgedkaaDoor
