/- A book of passes, in plain words: what is put, what counts, what goes. -/
import Derived.Test.YtnfcdccdmlodeaaGreatDoorBookL
namespace Go.Proofs.YtnfcdccdmlodeaaGreatDoor
theorem passEq_false {p q : Pass} (h : p ≠ q) : passEq p q = false := by
  cases e : passEq p q
  · rfl
  · exact absurd ((passEq_iff p q).1 e) h
/-- both sides' words for 'for the same' -/
theorem like_ref (p q : Pass) : passEq (q.until p.till) p = likeB p q := by
  unfold likeB
  by_cases h : p.until q.till = q
  · rw [(passEq_iff _ _).2 h, (passEq_iff _ _).2]
    rw [← h]
  · rw [passEq_false h, passEq_false]
    intro e
    apply h
    rw [← e]
/-- one pass put -/
def putB (b : List Pass) (p : Pass) : List Pass := b.filter (fun q => !likeB p q) ++ [p]
/-- passes put, at a time -/
def bookPut (max : Nat) (b l : List Pass) (now : Int) : List Pass := lastB max ((l.foldl putB b).filter (fun p => decide (now < p.till)))
/-- those that count for a request -/
def bookFor (r : Req) (now : Int) (b : List Pass) : List Pass :=
  b.filter (fun p => decide (now < p.till) && orgE p.orig r.orig && (orgE p.dest r.dest && (p.path.toList == r.path.toList) && (p.query.toList == r.query.toList)) && (p.creds || !r.creds))
def bookForget (r : Req) (b : List Pass) : List Pass := b.filter (fun p => !(orgE p.orig r.orig && (orgE p.dest r.dest && (p.path.toList == r.path.toList) && (p.query.toList == r.query.toList))))
def bookSweep (o : Org) (b : List Pass) : List Pass := b.filter (fun p => !(orgE p.orig o || orgE p.dest o))
theorem foldl_put_len : ∀ (l b : List Pass), (l.foldl putB b).length ≤ b.length + l.length
  | [], b => by simp
  | p :: l, b => by
    have h1 := foldl_put_len l (putB b p)
    have h2 : (putB b p).length ≤ b.length + 1 := by
      unfold putB
      rw [List.length_append]
      have := List.length_filter_le (fun q => !likeB p q) b
      simp; omega
    simp only [List.foldl_cons, List.length_cons]
    omega
theorem bookPut_len (max : Nat) (b l : List Pass) (now : Int) : (bookPut max b l now).length ≤ max := by
  unfold bookPut lastB
  rw [List.length_drop]
  omega
end Go.Proofs.YtnfcdccdmlodeaaGreatDoor
