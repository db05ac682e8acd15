/- Hosts: byte by byte, and label by label, are one. No program. -/
import Derived.Test.YtinlahahbhpppaaFound
import Derived.Test.YtinlahahbhpppaaRight
namespace Go.Proofs.Ytinlahahbhpppaa

def hostByte (c : UInt8) : Bool := lowDig c || c == 45
/-- a label behind a byte -/
def chk (was : UInt8) (p : List UInt8) : Bool :=
  (was != 46 || (!p.isEmpty && p.head? != some 45)) && p.all hostByte && (was :: p).getLast? != some 45
/-- a label -/
def labelOk (p : List UInt8) : Bool := !p.isEmpty && p.head? != some 45 && p.getLast? != some 45 && p.all hostByte
theorem chk_46 (p : List UInt8) : chk 46 p = labelOk p := by
  unfold chk labelOk
  cases p with
  | nil => rfl
  | cons c r =>
    rw [show (46 :: c :: r).getLast? = (c :: r).getLast? by simp [List.getLast?_cons_cons]]
    generalize (c :: r).isEmpty = E
    generalize ((c :: r).head? != some 45) = H
    generalize ((c :: r).getLast? != some 45) = L
    generalize (c :: r).all hostByte = A
    cases E <;> cases H <;> cases L <;> cases A <;> rfl
theorem hbad_46 (was : UInt8) : (!hbad was 46) = chk was [] := by
  unfold hbad chk
  rw [show ([was].getLast? != some 45) = !(was == 45) by simp [bne], show (was != 46) = !(was == 46) from rfl]
  generalize (was == 46) = a
  generalize (was == 45) = b
  cases a <;> cases b <;> rfl
theorem chk_cons (was c : UInt8) (p : List UInt8) (h : c ≠ 46) : chk was (c :: p) = (!hbad was c && chk c p) := by
  have h46 : (c == 46) = false := by simpa using h
  unfold hbad chk
  rw [show (was :: c :: p).getLast? = (c :: p).getLast? by simp [List.getLast?_cons_cons], show (was != 46) = !(was == 46) from rfl, show (c != 46) = true by simp [h], h46, List.all_cons, hostByte]
  generalize (!p.isEmpty && p.head? != some 45) = X
  generalize ((c :: p).getLast? != some 45) = L
  generalize (was == 46) = a
  generalize (was == 45) = b
  generalize p.all hostByte = A
  by_cases h45 : c = 45
  · subst h45
    cases a <;> cases b <;> cases X <;> cases L <;> cases A <;> rfl
  · rw [show ((c :: p).head? != some 45) = true by simp [h45], show (c != 45) = true by simp [h45], show (c == 45) = false by simpa using h45, show (c :: p).isEmpty = false from rfl]
    generalize lowDig c = d
    cases a <;> cases b <;> cases X <;> cases L <;> cases A <;> cases d <;> rfl
theorem hostGo_cut : ∀ (l : List UInt8) (was : UInt8), hostGo was (l ++ [46]) = match cutL 46 l with
    | [] => true
    | p :: r => chk was p && r.all labelOk
  | [], was => by
    simp only [List.nil_append, cutL, hostGo, List.all_nil, Bool.and_true]
    exact hbad_46 was
  | c :: l, was => by
    have ih := hostGo_cut l
    rw [List.cons_append, hostGo]
    by_cases h : c = 46
    · subst h
      rw [cutL, if_pos rfl, hbad_46, ih 46]
      cases hq : cutL 46 l with
      | nil => exact absurd hq (cutL_ne _ _)
      | cons p r => simp only [List.all_cons, chk_46]
    · rw [cutL, if_neg h, ih c]
      cases hq : cutL 46 l with
      | nil => exact absurd hq (cutL_ne _ _)
      | cons p r => simp only [chk_cons was c p h, Bool.and_assoc]
/-- a host: its labels -/
theorem hostOk_labels (l : List UInt8) : hostOk l = (decide (l.length ≤ 60) && (cutL 46 l).all labelOk) := by
  unfold hostOk
  rw [hostGo_cut]
  cases hq : cutL 46 l with
  | nil => exact absurd hq (cutL_ne _ _)
  | cons p r => simp only [List.all_cons, chk_46]
end Go.Proofs.Ytinlahahbhpppaa
