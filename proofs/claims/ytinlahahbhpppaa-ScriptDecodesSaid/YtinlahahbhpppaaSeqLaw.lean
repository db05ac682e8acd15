/- A range over strings.SplitSeq at one byte: the rounds' word, with the closure's box beside it. -/
import Derived.Test.YtinlahahbhpppaaSeq
namespace Go.Proofs.Ytinlahahbhpppaa
open Go.RowKit Go.Shelf

/-- how a round's body is left -/
def splitPost (bs : Nat) (I Ix : List (List UInt8) → World → Prop) (xs : List (List UInt8)) (W : World) : Exit → Act → World → Prop
  | .normal, _, W' => KeepsOthers W W' ∧ W'.cell? ⟨bs, 0, none⟩ = W.cell? ⟨bs, 0, none⟩ ∧ I xs W'
  | .ret, _, W' => KeepsOthers W W' ∧ Ix xs W'
  | _, _, _ => False

theorem putObj_cell {W : World} {l bs : Nat} {o : Obj} (h : bs ≠ l) : (W.putObj l o).cell? ⟨bs, 0, none⟩ = W.cell? ⟨bs, 0, none⟩ := by
  simp only [World.cell?, World.putObj_heap_other h]

end Go.Proofs.Ytinlahahbhpppaa
