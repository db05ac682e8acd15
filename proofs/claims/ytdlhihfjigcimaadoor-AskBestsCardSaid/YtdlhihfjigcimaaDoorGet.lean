/- cors.Get and the reference's FieldGet: all values of a field's name. -/
import Derived.Test.YtdlhihfjigcimaaDoorFound
import Derived.Test.YtdlhihfjigcimaaDoorFoun2
import Derived.Test.YtdlhihfjigcimaaDoorReq
namespace Go.Proofs.YtdlhihfjigcimaaDoor
open Go.RowKit

/-- the values of a name -/
def valsOf (ps : List (ByteArray × ByteArray)) (name : ByteArray) : List ByteArray := (ps.filter (fun p => same p.1 name)).map (·.2)
theorem valsOf_hit (ps : List (ByteArray × ByteArray)) (name : ByteArray) (k : Nat) (h : k < ps.length) (hs : same ps[k].1 name = true) : valsOf (ps.take (k + 1)) name = valsOf (ps.take k) name ++ [ps[k].2] := by
  unfold valsOf; rw [List.take_succ_eq_append_getElem h, List.filter_append, List.map_append]; simp [hs]
theorem valsOf_miss (ps : List (ByteArray × ByteArray)) (name : ByteArray) (k : Nat) (h : k < ps.length) (hs : same ps[k].1 name = false) : valsOf (ps.take (k + 1)) name = valsOf (ps.take k) name := by
  unfold valsOf; rw [List.take_succ_eq_append_getElem h, List.filter_append, List.map_append]; simp [hs]
theorem valsOf_le (ps : List (ByteArray × ByteArray)) (name : ByteArray) : (valsOf ps name).length ≤ ps.length := by
  unfold valsOf; rw [List.length_map]; exact List.length_filter_le _ _
theorem valsOf_sz (M : Nat) (ps : List (ByteArray × ByteArray)) (name : ByteArray) (h : ∀ p ∈ ps, p.2.size ≤ M) : ∀ s ∈ valsOf ps name, s.size ≤ M := by
  intro s hs
  obtain ⟨p, hp, rfl⟩ := List.mem_map.1 hs
  exact h p (List.mem_filter.1 hp).1
theorem valsOf_take_sz (M : Nat) (ps : List (ByteArray × ByteArray)) (name : ByteArray) (k : Nat) (h : ∀ p ∈ ps, p.2.size ≤ M) : (commas (valsOf (ps.take k) name)).length ≤ ps.length * (M + 2) := by
  refine Nat.le_trans (commas_len M _ (valsOf_sz M _ name (fun p hp => h p (List.mem_of_mem_take hp)))) (Nat.mul_le_mul_right _ ?_)
  exact Nat.le_trans (valsOf_le _ _) (List.length_take_le' _ _)

/-- the value of a field: all values of its name, and whether there are any -/
def fieldOf (ps : List (ByteArray × ByteArray)) (name : ByteArray) : ByteArray × Bool := (⟨(commas (valsOf ps name)).toArray⟩, !(valsOf ps name).isEmpty)

theorem ret_sb {s t : ByteArray} {b c : Bool} (h : s = t) (h' : b = c) : Ending.returned (.tuple #[.string s, .bool b]) = .returned (.tuple #[.string t, .bool c]) := by rw [h, h']
theorem pos_ne {α : Type} (l : List α) : decide (0 < l.length) = !l.isEmpty := by cases l <;> simp
theorem app_ne {α : Type} (l : List α) (x : α) : true = !(l ++ [x]).isEmpty := by cases l <;> rfl

end Go.Proofs.YtdlhihfjigcimaaDoor
