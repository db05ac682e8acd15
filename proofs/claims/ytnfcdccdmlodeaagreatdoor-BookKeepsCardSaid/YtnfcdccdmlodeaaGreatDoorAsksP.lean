/- Which headers must be asked for: the two ways, plain lists. No program. -/
import Derived.Test.YtnfcdccdmlodeaaGreatDoorFound
import Derived.Test.YtnfcdccdmlodeaaGreatDoorPlainB
import Derived.Lib.SlicesCompact
namespace Go.Proofs.YtnfcdccdmlodeaaGreatDoor
/-- texts, rising -/
def sortL (l : List (List UInt8)) : List (List UInt8) := l.mergeSort (fun x y => decide (x ≤ y))
theorem sortL_len (l : List (List UInt8)) : (sortL l).length = l.length := (List.mergeSort_perm l _).length_eq
theorem sortL_sorted (l : List (List UInt8)) : (sortL l).Pairwise (fun a b => a ≤ b) := by
  have h := List.pairwise_mergeSort (le := fun x y : List UInt8 => decide (x ≤ y)) (fun a b c h1 h2 => decide_eq_true (List.le_trans (of_decide_eq_true h1) (of_decide_eq_true h2)))
    (fun a b => by
      rcases List.le_total a b with h | h
      · rw [decide_eq_true h]; rfl
      · rw [decide_eq_true h]; simp) l
  exact h.imp (fun h => of_decide_eq_true h)
theorem sortL_perm {a b : List (List UInt8)} (h : a.Perm b) : sortL a = sortL b :=
  List.Perm.eq_of_pairwise (le := fun x y : List UInt8 => x ≤ y) (fun _ _ _ _ h1 h2 => List.le_antisymm h1 h2) (sortL_sorted a) (sortL_sorted b)
    ((List.mergeSort_perm a _).trans (h.trans (List.mergeSort_perm b _).symm))
/-- a header: its name, its value -/
abbrev Hd := List UInt8 × List UInt8
def plH (p : Hd) : Bool := plainB p.1 p.2
def outN (l : List Hd) : List (List UInt8) := (l.filter (fun p => !plH p)).map (fun p => lower p.1)
def plainN (l : List Hd) : List (List UInt8) := (l.filter plH).map (fun p => lower p.1)
def plainSz (l : List Hd) : Nat := ((l.filter plH).map (fun p => p.2.length)).sum
/-- as the program lists them -/
def askProg (l : List Hd) : List (List UInt8) := if 1024 < plainSz l then outN l ++ plainN l else outN l
/-- as the document does -/
def askRef (l : List Hd) : List (List UInt8) := (l.filter (fun p => decide (1024 < plainSz l) || !plH p)).map (fun p => lower p.1)
theorem ask_perm (l : List Hd) : (askProg l).Perm (askRef l) := by
  unfold askProg askRef
  by_cases h : 1024 < plainSz l
  · rw [if_pos h]
    have e : (fun p : Hd => decide (1024 < plainSz l) || !plH p) = fun _ => true := by funext p; rw [decide_eq_true h]; rfl
    rw [e, List.filter_eq_self.2 (fun _ _ => rfl)]
    unfold outN plainN
    rw [← List.map_append]
    exact (List.perm_append_comm.trans (List.filter_append_perm plH l)).map _
  · rw [if_neg h]
    have e : (fun p : Hd => decide (1024 < plainSz l) || !plH p) = fun p => !plH p := by funext p; rw [decide_eq_false h]; rfl
    rw [e]
    exact List.Perm.refl _
/-- the names, rising, each once -/
def askL (l : List Hd) : List (List UInt8) := Go.Lib.compact (sortL (askRef l))
theorem ask_prog (l : List Hd) : Go.Lib.compact (sortL (askProg l)) = askL l := by unfold askL; rw [sortL_perm (ask_perm l)]
theorem outN_snoc (l : List Hd) (p : Hd) : outN (l ++ [p]) = outN l ++ (if plH p = true then [] else [lower p.1]) := by
  unfold outN
  rw [List.filter_append, List.map_append]
  cases h : plH p <;> simp [h]
theorem plainN_snoc (l : List Hd) (p : Hd) : plainN (l ++ [p]) = plainN l ++ (if plH p = true then [lower p.1] else []) := by
  unfold plainN
  rw [List.filter_append, List.map_append]
  cases h : plH p <;> simp [h]
theorem plainSz_snoc (l : List Hd) (p : Hd) : plainSz (l ++ [p]) = plainSz l + (if plH p = true then p.2.length else 0) := by
  unfold plainSz
  rw [List.filter_append, List.map_append, List.sum_append]
  cases h : plH p <;> simp [h]
end Go.Proofs.YtnfcdccdmlodeaaGreatDoor
