/- What a cursor finds in a text: blanks, marks, words, texts between marks. Plain lists; no program. -/
import Derived.Test.YtfkflgcifddnnaaDoorToken
import Derived.Test.YtfkflgcifddnnaaDoorTextB
namespace Go.Proofs.YtfkflgcifddnnaaDoor

def isBl (c : UInt8) : Bool := decide (c.toNat = 32 ∨ c.toNat = 9)
/-- so many bytes of a kind stand from k on -/
def spanAt (p : UInt8 → Bool) (l : List UInt8) (k : Nat) : List UInt8 := (l.drop k).takeWhile p
theorem spanAt_stop {p : UInt8 → Bool} {l : List UInt8} {k : Nat} (h : k < l.length) (hp : p l[k] = false) : spanAt p l k = [] := by
  unfold spanAt; rw [List.drop_eq_getElem_cons h, List.takeWhile_cons, if_neg (by simp [hp])]
theorem spanAt_end {p : UInt8 → Bool} {l : List UInt8} {k : Nat} (h : l.length ≤ k) : spanAt p l k = [] := by
  unfold spanAt; rw [List.drop_eq_nil_of_le h]; rfl
theorem spanAt_go {p : UInt8 → Bool} {l : List UInt8} {k : Nat} (h : k < l.length) (hp : p l[k] = true) : spanAt p l k = l[k] :: spanAt p l (k + 1) := by
  unfold spanAt; rw [List.drop_eq_getElem_cons h, List.takeWhile_cons, if_pos hp]
theorem takeWhile_take (p : UInt8 → Bool) (l : List UInt8) : l.takeWhile p = l.take (l.takeWhile p).length := by
  induction l with
  | nil => rfl
  | cons a l ih =>
    rw [List.takeWhile_cons]
    split
    · simp only [List.length_cons, List.take_succ_cons]; rw [← ih]
    · rfl
theorem spanAt_len (p : UInt8 → Bool) (l : List UInt8) (k : Nat) : (spanAt p l k).length ≤ l.length - k := by
  unfold spanAt; have := (List.takeWhile_sublist p (l := l.drop k)).length_le; simpa using this
theorem spanAt_take (p : UInt8 → Bool) (l : List UInt8) (k : Nat) : (l.drop k).take (spanAt p l k).length = spanAt p l k := (takeWhile_take p _).symm
/-- a loop's count: from i on j bytes were of the kind -/
theorem spanAt_done {p : UInt8 → Bool} {l : List UInt8} {i j : Nat} (h : (spanAt p l i).length = (j - i) + (spanAt p l j).length) (hij : i ≤ j) (he : spanAt p l j = []) : i + (spanAt p l i).length = j := by
  rw [h, he]; simp; omega

/-- behind a mark: the text up to the next one, and how much is left behind that -/
def qgo : List UInt8 → List UInt8 → Option (List UInt8 × Nat)
  | [], _ => none
  | [c], acc => if c.toNat = 34 then some (acc, 0) else none
  | c :: x :: r, acc => if c.toNat = 34 then some (acc, r.length + 1) else if c.toNat = 92 then (if textB x then qgo r (acc ++ [x]) else none) else if textB c then qgo (x :: r) (acc ++ [c]) else none
theorem qgo_mark {c : UInt8} (r acc : List UInt8) (h : c.toNat = 34) : qgo (c :: r) acc = some (acc, r.length) := by
  cases r <;> simp [qgo, h]
theorem qgo_back {c : UInt8} (acc : List UInt8) (h : c.toNat = 92) : qgo [c] acc = none := by simp [qgo, h]
theorem qgo_esc {c x : UInt8} (r acc : List UInt8) (h : c.toNat = 92) (hx : textB x = true) : qgo (c :: x :: r) acc = qgo r (acc ++ [x]) := by simp [qgo, h, hx]
theorem qgo_esc_no {c x : UInt8} (r acc : List UInt8) (h : c.toNat = 92) (hx : textB x = false) : qgo (c :: x :: r) acc = none := by simp [qgo, h, hx]
theorem qgo_text {c : UInt8} (r acc : List UInt8) (h : c.toNat ≠ 34) (h' : c.toNat ≠ 92) (hx : textB c = true) : qgo (c :: r) acc = qgo r (acc ++ [c]) := by
  cases r <;> simp [qgo, h, h', hx]
theorem qgo_no {c : UInt8} (r acc : List UInt8) (h : c.toNat ≠ 34) (h' : c.toNat ≠ 92) (hx : textB c = false) : qgo (c :: r) acc = none := by
  cases r <;> simp [qgo, h, h', hx]
theorem qgo_len : ∀ (n : Nat) (l acc : List UInt8) (x : List UInt8 × Nat), l.length ≤ n → qgo l acc = some x → x.1.length ≤ acc.length + l.length ∧ x.2 < l.length
  | 0, [], _, _, _, h => by simp [qgo] at h
  | 0, _ :: _, _, _, hn, _ => by simp at hn
  | n + 1, [], _, _, _, h => by simp [qgo] at h
  | n + 1, [c], acc, x, _, h => by
    unfold qgo at h; split at h
    · cases h; simp
    · cases h
  | n + 1, c :: y :: r, acc, x, hn, h => by
    unfold qgo at h
    simp only [List.length_cons] at hn
    split at h
    · cases h; simp
    · split at h
      · split at h
        · have := qgo_len n r (acc ++ [y]) x (by omega) h; simp at this ⊢; omega
        · cases h
      · split at h
        · have := qgo_len n (y :: r) (acc ++ [c]) x (by simp; omega) h; simp at this ⊢; omega
        · cases h
/-- the text between marks that begins at k, and the place behind it -/
def quotedAt (l : List UInt8) (k : Nat) : Option (List UInt8 × Nat) :=
  match l.drop k with
  | c :: r => if c.toNat = 34 then (qgo r []).map (fun x => (x.1, l.length - x.2)) else none
  | [] => none
theorem quotedAt_end {l : List UInt8} {k : Nat} (h : l.length ≤ k) : quotedAt l k = none := by unfold quotedAt; rw [List.drop_eq_nil_of_le h]
theorem quotedAt_no {l : List UInt8} {k : Nat} (h : k < l.length) (hc : l[k].toNat ≠ 34) : quotedAt l k = none := by unfold quotedAt; rw [List.drop_eq_getElem_cons h]; simp [hc]
theorem quotedAt_go {l : List UInt8} {k : Nat} (h : k < l.length) (hc : l[k].toNat = 34) : quotedAt l k = (qgo (l.drop (k + 1)) []).map (fun x => (x.1, l.length - x.2)) := by unfold quotedAt; rw [List.drop_eq_getElem_cons h]; simp [hc]
theorem quotedAt_bd {l : List UInt8} {k : Nat} {x : List UInt8 × Nat} (h : quotedAt l k = some x) : x.1.length ≤ l.length ∧ k < x.2 ∧ x.2 ≤ l.length := by
  by_cases hk : k < l.length
  · by_cases hc : l[k].toNat = 34
    · rw [quotedAt_go hk hc] at h
      obtain ⟨y, hy, rfl⟩ := Option.map_eq_some_iff.1 h
      have := qgo_len _ _ _ _ (Nat.le_refl _) hy
      simp at this
      simp; omega
    · rw [quotedAt_no hk hc] at h; cases h
  · rw [quotedAt_end (by omega)] at h; cases h
end Go.Proofs.YtfkflgcifddnnaaDoor
