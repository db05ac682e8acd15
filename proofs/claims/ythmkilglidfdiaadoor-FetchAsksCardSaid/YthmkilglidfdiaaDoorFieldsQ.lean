/- An answer's lines: what both sides hand back, as values. -/
import Derived.Test.YthmkilglidfdiaaDoorFieldsP
import Derived.Test.YthmkilglidfdiaaDoorFoun2
import Derived.Test.YthmkilglidfdiaaDoorFound
import Derived.Test.YthmkilglidfdiaaDoorSplit
import Derived.Test.YthmkilglidfdiaaDoorErrs
namespace Go.Proofs.YthmkilglidfdiaaDoor
open Go.RowKit

theorem trim_chop (l : List UInt8) : Lib.trimSuffix l [13] = chop l := by
  unfold Lib.trimSuffix chop Lib.hasSuffix
  have e : ([13] : List UInt8).isSuffixOf l = decide (l.getLast? = some 13) := by
    rw [Bool.eq_iff_iff, List.isSuffixOf_iff_suffix, decide_eq_true_iff]
    constructor
    · rintro ⟨t, rfl⟩; simp
    · intro h
      obtain ⟨t, ht⟩ := List.getLast?_eq_some_iff.1 h
      exact ⟨t, ht.symm⟩
  rw [e]
  by_cases h : l.getLast? = some 13
  · rw [if_pos (by simpa using h), if_pos h, List.dropLast_eq_take]; rfl
  · rw [if_neg (by simpa using h), if_neg h]
theorem colon_has (l : List UInt8) : hasColon l = l.contains 58 := rfl
theorem nameOf_bef (l : List UInt8) : nameOf l = befL 58 l := rfl
def pdatas (ps : List (ByteArray × ByteArray)) : List (List UInt8 × List UInt8) := ps.map fun p => (p.1.data.toList, p.2.data.toList)
theorem pdatas_snoc (ps : List (ByteArray × ByteArray)) (a b : ByteArray) : pdatas (ps ++ [(a, b)]) = pdatas ps ++ [(a.data.toList, b.data.toList)] := by simp [pdatas]
theorem pdatas_len (ps : List (ByteArray × ByteArray)) : (pdatas ps).length = ps.length := by simp [pdatas]
theorem pdatas_inj : ∀ {a b : List (ByteArray × ByteArray)}, pdatas a = pdatas b → a = b
  | [], [], _ => rfl
  | [], _ :: _, h => by simp [pdatas] at h
  | _ :: _, [], h => by simp [pdatas] at h
  | x :: a, y :: b, h => by
    simp only [pdatas, List.map_cons, List.cons.injEq, Prod.mk.injEq] at h
    rw [pdatas_inj (a := a) (b := b) h.2, show x = y from Prod.ext (ba_ext h.1.1) (ba_ext h.1.2)]
theorem fieldsP_len : ∀ (ps : List (List UInt8)) (i : Nat) (acc : List (List UInt8 × List UInt8)), acc.length ≤ 40 → ∀ r, fieldsP ps i acc = .ok r → r.length ≤ 40
  | [], _, _, h, r, e => by
    simp only [fieldsP, FieldsR.ok.injEq] at e
    rw [← e]; exact h
  | p :: ps, i, acc, h, r, e => by
    unfold fieldsP at e
    split at e
    · exact fieldsP_len ps _ _ h r e
    split at e
    · cases e
    split at e
    · cases e
    · exact fieldsP_len ps _ _ (by simp; omega) r e
/-- an answer's lines, and the error: its number, its place -/
def fieldsRes (l : List UInt8) : List (List UInt8 × List UInt8) × Int × Int :=
  if 3000 < l.length then ([], 4, -1) else match fieldsP (cutL 10 l) 0 [] with
    | .ok ps => (ps, 0, -1)
    | .form i => ([], 3, (i : Int))
    | .limit => ([], 4, -1)
abbrev OwnPar (w : World) (base : Nat) (v : Value) (ps : List (ByteArray × ByteArray)) : Prop := OwnG 69 2 encPar w base v ps
def FieldsPost (w : World) (l : List UInt8) (e : Ending) (w' : World) : Prop :=
  ∃ v x ps, e = .returned (.tuple #[v, x]) ∧ OwnPar w' w.heap.size v ps ∧ pdatas ps = (fieldsRes l).1 ∧ ErrIs w' x (fieldsRes l).2.1 (fieldsRes l).2.2 ∧ ((fieldsRes l).2.1 = 0 → x = .nilIface) ∧ Below w.heap.size w w'
def FieldsPostR (w : World) (l : List UInt8) (e : Ending) (w' : World) : Prop :=
  ∃ v ps, e = .returned (.tuple #[v, .agg #[.int .i64 (fieldsRes l).2.1, .int .i64 (fieldsRes l).2.2]]) ∧ OwnPar w' w.heap.size v ps ∧ pdatas ps = (fieldsRes l).1 ∧ Below w.heap.size w w'
theorem fieldsRes_len (l : List UInt8) : (fieldsRes l).1.length ≤ 40 := by
  unfold fieldsRes
  split
  · exact Nat.zero_le _
  split
  · rename_i e; exact fieldsP_len _ _ _ (Nat.zero_le _) _ e
  · exact Nat.zero_le _
  · exact Nat.zero_le _
theorem fr_long {l : List UInt8} (h : 3000 < l.length) : fieldsRes l = ([], 4, -1) := by unfold fieldsRes; rw [if_pos h]
theorem fr_ok {l : List UInt8} {ps : List (List UInt8 × List UInt8)} (h : ¬3000 < l.length) (h' : fieldsP (cutL 10 l) 0 [] = .ok ps) : fieldsRes l = (ps, 0, -1) := by unfold fieldsRes; rw [if_neg h, h']
theorem fr_form {l : List UInt8} {i : Nat} (h : ¬3000 < l.length) (h' : fieldsP (cutL 10 l) 0 [] = .form i) : fieldsRes l = ([], 3, (i : Int)) := by unfold fieldsRes; rw [if_neg h, h']
theorem fr_limit {l : List UInt8} (h : ¬3000 < l.length) (h' : fieldsP (cutL 10 l) 0 [] = .limit) : fieldsRes l = ([], 4, -1) := by unfold fieldsRes; rw [if_neg h, h']
theorem OwnG.base {α : Type} {T : TypeId} {n : Nat} {enc : α → List Value} {w : World} {b b' : Nat} {v : Value} {l : List α} (h : OwnG T n enc w b' v l) (hb : b ≤ b') : OwnG T n enc w b v l := ownsRow_base h hb
theorem fieldsP_skip {p : List UInt8} {ps : List (List UInt8)} {i : Nat} {acc : List (List UInt8 × List UInt8)} (h : chop p = []) : fieldsP (p :: ps) i acc = fieldsP ps (i + 1) acc := by rw [fieldsP, if_pos h]
theorem fieldsP_form {p : List UInt8} {ps : List (List UInt8)} {i : Nat} {acc : List (List UInt8 × List UInt8)} (h : chop p ≠ []) (h2 : hasColon (chop p) = false ∨ tokW (nameOf (chop p)) = false) : fieldsP (p :: ps) i acc = .form i := by rw [fieldsP, if_neg h, if_pos h2]
theorem fieldsP_limit {p : List UInt8} {ps : List (List UInt8)} {i : Nat} {acc : List (List UInt8 × List UInt8)} (h : chop p ≠ []) (h2 : hasColon (chop p) = true) (h3 : tokW (nameOf (chop p)) = true) (h4 : acc.length = 40) : fieldsP (p :: ps) i acc = .limit := by rw [fieldsP, if_neg h, if_neg (by simp [h2, h3]), if_pos h4]
theorem fieldsP_go {p : List UInt8} {ps : List (List UInt8)} {i : Nat} {acc : List (List UInt8 × List UInt8)} (h : chop p ≠ []) (h2 : hasColon (chop p) = true) (h3 : tokW (nameOf (chop p)) = true) (h4 : acc.length ≠ 40) : fieldsP (p :: ps) i acc = fieldsP ps (i + 1) (acc ++ [(nameOf (chop p), valueOf (chop p))]) := by rw [fieldsP, if_neg h, if_neg (by simp [h2, h3]), if_neg h4]
end Go.Proofs.YthmkilglidfdiaaDoor
