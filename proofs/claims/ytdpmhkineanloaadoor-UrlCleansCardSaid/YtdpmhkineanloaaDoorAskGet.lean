/- ask.Get and the reference's AskGet: the value of the first parameter of a name. -/
import Derived.Test.YtdpmhkineanloaaDoorSame
import Derived.Deep.QuietTactic
import Derived.BigQuiet
namespace Go.Proofs.YtdpmhkineanloaaDoor
open Go.RowKit

/-- The slice at a holds these pairs of texts. -/
def ParAt (w : World) (a : Option Addr) (ps : List (ByteArray × ByteArray)) : Prop :=
  ∀ i (h : i < ps.length), ∃ b off, a = some ⟨b, off, none⟩ ∧ w.cell? ⟨b, off + i * 2, none⟩ = some (.string ps[i].1) ∧ w.cell? ⟨b, off + i * 2 + 1, none⟩ = some (.string ps[i].2)
def ParSz (ps : List (ByteArray × ByteArray)) : Prop := ∀ p ∈ ps, p.1.size ≤ maxLen ∧ p.2.size ≤ maxLen

theorem ParAt.later {w w' : World} {a : Option Addr} {ps : List (ByteArray × ByteArray)} (h : ParAt w a ps) (hb : Below w.heap.size w w') : ParAt w' a ps := by
  intro i hi
  obtain ⟨b, off, ha, h1, h2⟩ := h i hi
  exact ⟨b, off, ha, (hb.cell (World.block_lt_of_cell? w _ h1)).trans h1, (hb.cell (World.block_lt_of_cell? w _ h2)).trans h2⟩

/-- the value of the first parameter of a name -/
def getOf (ps : List (ByteArray × ByteArray)) (name : ByteArray) : ByteArray × Bool :=
  match ps.find? (fun p => same p.1 name) with
  | some p => (p.2, true)
  | none => (⟨#[]⟩, false)

def noneTo (ps : List (ByteArray × ByteArray)) (name : ByteArray) (k : Nat) : Prop := ∀ p ∈ ps.take k, same p.1 name = false
theorem noneTo_zero (ps : List (ByteArray × ByteArray)) (name : ByteArray) : noneTo ps name 0 := by intro p hp; simp at hp
theorem noneTo_succ {ps : List (ByteArray × ByteArray)} {name : ByteArray} {k : Nat} (h : noneTo ps name k) (hk : k < ps.length) (hs : same ps[k].1 name = false) : noneTo ps name (k + 1) := by
  intro p hp
  rw [List.take_succ_eq_append_getElem hk] at hp
  rcases List.mem_append.1 hp with h1 | h1
  · exact h p h1
  · simp at h1; subst h1; exact hs
theorem getOf_hit {ps : List (ByteArray × ByteArray)} {name : ByteArray} {k : Nat} (h : noneTo ps name k) (hk : k < ps.length) (hs : same ps[k].1 name = true) : getOf ps name = (ps[k].2, true) := by
  have : ps.find? (fun p => same p.1 name) = some ps[k] := by
    rw [List.find?_eq_some_iff_getElem]
    refine ⟨hs, k, hk, rfl, fun j hj => ?_⟩
    have := h ps[j] (by rw [List.mem_take_iff_getElem]; exact ⟨j, by omega, rfl⟩)
    simp [this]
  unfold getOf
  rw [this]
theorem getOf_miss {ps : List (ByteArray × ByteArray)} {name : ByteArray} (h : noneTo ps name ps.length) : getOf ps name = (⟨#[]⟩, false) := by
  unfold getOf
  rw [List.find?_eq_none.2 (fun p hp => by simp [h p (by simpa using hp)])]

end Go.Proofs.YtdpmhkineanloaaDoor
