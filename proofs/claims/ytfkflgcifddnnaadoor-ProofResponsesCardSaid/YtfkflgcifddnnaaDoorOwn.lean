/- Lists of texts that a call makes for itself. -/
import Derived.Test.YtfkflgcifddnnaaDoorStrs
namespace Go.Proofs.YtfkflgcifddnnaaDoor
open Go.RowKit

theorem grownBy_below {w w' : World} {row : Option Nat} (h : Below w.heap.size w w') : w.grownBy w' row := ⟨h.os, h.tape, h.output, h.size, fun k hk _ => h.block k hk⟩
theorem own_later {w w' : World} {base : Nat} {e : TypeId} {size : Nat} {v : Value} {n : Nat} {xs : List Value} (h : w.ownsRow base e size v n xs) (hb : Below w.heap.size w w') : w'.ownsRow base e size v n xs :=
  h.kept (row := none) (grownBy_below hb) (by cases hv : v.ownBlock <;> simp)

/-- v is a slice of the call's own, in blocks from base on, that holds these texts. -/
def OwnStr (w : World) (base : Nat) (v : Value) (ss : List ByteArray) : Prop := w.ownsRow base 9 1 v ss.length (ss.map Value.string)
theorem OwnStr.nil (w : World) (base : Nat) : OwnStr w base (.slice none 0 0) [] := World.ownsRow_nil w base _ _
theorem OwnStr.later {w w' : World} {base : Nat} {v : Value} {ss : List ByteArray} (h : OwnStr w base v ss) (hb : Below w.heap.size w w') : OwnStr w' base v ss := own_later h hb
theorem OwnStr.shape {w : World} {base : Nat} {v : Value} {ss : List ByteArray} (h : OwnStr w base v ss) : ∃ a cap, v = .slice a ss.length cap ∧ StrAt w a ss ∧ ss.length ≤ cap ∧ cap ≤ maxLen ∧ (ss = [] → v = .slice none 0 0 ∨ a ≠ none) := by
  obtain ⟨h1, h2⟩ := h
  rcases h2 with ⟨rfl, h3⟩ | ⟨g, cap, cur, rfl, hb, hg, hn, hm, hs, ht⟩
  · have : ss = [] := List.length_eq_zero_iff.1 h3
    subst this
    exact ⟨none, 0, rfl, StrAt.nil _ _, Nat.le_refl _, Nat.zero_le _, fun _ => .inl rfl⟩
  · refine ⟨_, cap, rfl, ?_, hn, hm, fun _ => .inr (by simp)⟩
    intro i hi
    refine ⟨g, 0, rfl, ?_⟩
    rw [Nat.zero_add, cell_of_row w g i cur _ _ hg]
    have : (cur.toList.take (ss.length * 1))[i]? = (ss.map Value.string)[i]? := by rw [ht]
    rw [List.getElem?_take, if_pos (by omega)] at this
    simp [hi] at this
    simpa using this

theorem infoString : (Tryd.prog.info? 9).map (fun i => (i.zero, i.size, i.bytes)) = some (some (.string ⟨#[]⟩), 1, 16) := by kernel_rfl

theorem OwnStr.snoc {w : World} {base : Nat} {v : Value} {ss : List ByteArray} {s : ByteArray} (h : w.ownsRow base 9 1 v (ss.length + 1) (ss.map Value.string ++ [.string s])) : OwnStr w base v (ss ++ [s]) := by
  unfold OwnStr; rw [List.length_append, List.map_append]; exact h
/-- behind an append to a slice of the call's own: its element was laid in a block ahead of it -/
theorem below_append {base : Nat} {a w w' : World} {o : Obj} {e : TypeId} {size : Nat} {v : Value} {n : Nat} {xs : List Value} (hB : Below base a w) (hO : w.ownsRow base e size v n xs) (hg : (w.alloc o).grownBy w' v.ownBlock) (hb : base ≤ w.heap.size) : Below base a w' :=
  (hB.alloc hb o).grown hg (by simp; omega) (fun k hk => (hO.lt k hk).1)
theorem one_cell_string (s : ByteArray) : ∀ u ∈ [Value.string s], u.oneCell' = true := by intro u hu; simp at hu; subst hu; rfl

end Go.Proofs.YtfkflgcifddnnaaDoor
