/- An answer's lines, as both sides find them. Plain lists; no program. -/
import Derived.Test.YthmkilglidfdiaaDoorFoun2
import Derived.Test.YthmkilglidfdiaaDoorFound
namespace Go.Proofs.YthmkilglidfdiaaDoor

/-- a line without the mark at its end -/
def chop (p : List UInt8) : List UInt8 := if p.getLast? = some 13 then p.dropLast else p
/-- what stands ahead of the first colon -/
def nameOf (p : List UInt8) : List UInt8 := p.takeWhile (fun c => c != 58)
def hasColon (p : List UInt8) : Bool := p.contains 58
def valueOf (p : List UInt8) : List UInt8 := Lib.trimS (p.drop ((nameOf p).length + 1)) [32, 9]
/-- an answer's lines; or (form, which); or too many -/
inductive FieldsR where
  | ok (l : List (List UInt8 × List UInt8))
  | form (i : Nat)
  | limit
def fieldsP : List (List UInt8) → Nat → List (List UInt8 × List UInt8) → FieldsR
  | [], _, acc => .ok acc
  | p :: ps, i, acc =>
    if chop p = [] then fieldsP ps (i + 1) acc
    else if hasColon (chop p) = false ∨ tokW (nameOf (chop p)) = false then .form i
    else if acc.length = 40 then .limit
    else fieldsP ps (i + 1) (acc ++ [(nameOf (chop p), valueOf (chop p))])
theorem chop_len (p : List UInt8) : (chop p).length ≤ p.length := by
  unfold chop; split
  · simp
  · exact Nat.le_refl _
theorem nameOf_len (p : List UInt8) : (nameOf p).length ≤ p.length := (List.takeWhile_sublist _).length_le
theorem valueOf_len (p : List UInt8) : (valueOf p).length ≤ p.length := by
  refine Nat.le_trans (trimS_len _ _) ?_
  simp
theorem colon_at : ∀ p : List UInt8, hasColon p = true → (nameOf p).length < p.length ∧ p.drop (nameOf p).length = 58 :: p.drop ((nameOf p).length + 1) ∧ 58 ∉ nameOf p
  | [], h => by simp [hasColon] at h
  | a :: l, h => by
    unfold nameOf
    rw [List.takeWhile_cons]
    by_cases ha : a = 58
    · subst ha; simp
    · have h' : hasColon l = true := by unfold hasColon at *; simpa [Ne.symm ha] using h
      obtain ⟨h1, h2, h3⟩ := colon_at l h'
      unfold nameOf at h1 h2 h3
      have e : (a != 58) = true := by simpa using ha
      rw [e]
      simp only [if_true, List.length_cons, List.drop_succ_cons, List.mem_cons, not_or]
      exact ⟨by omega, h2, Ne.symm ha, h3⟩
theorem nameOf_none : ∀ p : List UInt8, hasColon p = false → nameOf p = p
  | [], _ => rfl
  | a :: l, h => by
    have ha : a ≠ 58 := by rintro rfl; simp [hasColon] at h
    have h' : hasColon l = false := by unfold hasColon at *; simpa [Ne.symm ha] using h
    have ih := nameOf_none l h'
    unfold nameOf at ih ⊢
    rw [List.takeWhile_cons, if_pos (by simpa using ha), ih]
end Go.Proofs.YthmkilglidfdiaaDoor
