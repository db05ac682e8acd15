/- url.Parse: plain laws. -/
import Derived.Test.YthmkilglidfdiaaGreatDoorUrlXL
namespace Go.Proofs.YthmkilglidfdiaaGreatDoor
theorem indexAny_at (r : List UInt8) : Lib.indexAny r [47, 63] = if atL r < r.length then (atL r : Int) else -1 := by
  have hno : ∀ n, n ≤ atL r → Lib.NoAny r [47, 63] n := by
    intro n hn j x hj hx
    obtain ⟨hjr, n1, n2⟩ := atL_go (r := r) (j := j) (by omega)
    rw [List.getElem?_eq_getElem hjr] at hx
    cases hx
    simp [beq_eq_false_iff_ne.1 n1, beq_eq_false_iff_ne.1 n2]
  by_cases h : atL r < r.length
  · rw [if_pos h]
    refine Lib.indexAny_hit (hno _ (Nat.le_refl _)) (List.getElem?_eq_getElem h) ?_
    rcases atL_stop h with h1 | h1
    · simp [eq_of_beq h1]
    · simp [eq_of_beq h1]
  · rw [if_neg h]
    have := atL_le r
    exact Lib.indexAny_none (hno _ (by omega))
/-- an empty path stands for the root -/
def fixP (P : ByteArray) : ByteArray := if P.data.toList = [] then ⟨#[47]⟩ else P
theorem fixP_clean (P : ByteArray) : cleanB (fixP P) = cleanB P := by
  unfold fixP
  split
  · rename_i h
    obtain rfl : P = ⟨#[]⟩ := by cases P; simp at h; subst h; rfl
    rfl
  · rfl
theorem fixP_all (P : ByteArray) : (fixP P).data.toList.all sendB = P.data.toList.all sendB := by
  unfold fixP
  split
  · rename_i h
    rw [h]; decide
  · rfl
theorem path_head {r : List UInt8} {c : UInt8} {l : List UInt8} (h : befL 63 (r.drop (atL r)) = c :: l) : c = 47 := by
  by_cases hlt : atL r < r.length
  · rw [List.drop_eq_getElem_cons hlt] at h
    rcases atL_stop hlt with h1 | h1
    · rw [eq_of_beq h1, befL_skip (by decide)] at h
      cases h; rfl
    · rw [eq_of_beq h1, befL_hit] at h
      cases h
  · rw [List.drop_eq_nil_of_le (by omega), befL_nil] at h
    cases h
theorem fixP_head {r : List UInt8} (P : ByteArray) (h : P.data.toList = befL 63 (r.drop (atL r))) : ∃ l, (fixP P).data.toList = 47 :: l := by
  unfold fixP
  split
  · exact ⟨[], rfl⟩
  · rename_i h0
    cases hp : P.data.toList with
    | nil => exact absurd hp h0
    | cons c l =>
      rw [hp] at h
      exact ⟨l, by rw [path_head h.symm]⟩
theorem befL_free (c : UInt8) (l : List UInt8) : (befL c l).contains c = false := by
  induction l with
  | nil => rfl
  | cons a l ih =>
    by_cases h : a = c
    · subst h; rw [befL_hit]; rfl
    · rw [befL_skip h, has_skip h]; exact ih
theorem fixP_free {tl : List UInt8} (P : ByteArray) (h : P.data.toList = befL 63 tl) : (fixP P).data.toList.contains 63 = false := by
  unfold fixP
  split
  · decide
  · rw [h]; exact befL_free _ _
theorem joinO_of {l : List UInt8} {sec : Bool} {r : List UInt8} (h1 : schemeL l = some (sec, r)) : urlT l = match placeL sec (r.take (atL r)) with
    | none => .error 3
    | some (h, n) => if (hostOk h && portOk n) = true then joinO (some (sec, h, n)) (restL (r.drop (atL r))) else .error 3 := by
  unfold urlT
  rw [h1]
  rfl
end Go.Proofs.YthmkilglidfdiaaGreatDoor
