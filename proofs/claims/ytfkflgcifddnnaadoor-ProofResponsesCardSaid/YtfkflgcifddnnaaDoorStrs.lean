/- Lists of texts in memory. -/
import Derived.Test.YtfkflgcifddnnaaDoorBase
namespace Go.Proofs.YtfkflgcifddnnaaDoor
open Go.RowKit

/-- The slice at a holds these texts. -/
def StrAt (w : World) (a : Option Addr) (ss : List ByteArray) : Prop :=
  ∀ i (h : i < ss.length), ∃ b off, a = some ⟨b, off, none⟩ ∧ w.cell? ⟨b, off + i, none⟩ = some (.string ss[i])
theorem StrAt.later {w w' : World} {a : Option Addr} {ss : List ByteArray} (h : StrAt w a ss) (hb : Below w.heap.size w w') : StrAt w' a ss := by
  intro i hi
  obtain ⟨b, off, ha, h1⟩ := h i hi
  exact ⟨b, off, ha, (hb.cell (World.block_lt_of_cell? w _ h1)).trans h1⟩
theorem StrAt.nil (w : World) (a : Option Addr) : StrAt w a [] := fun i h => by simp at h

def datas (ss : List ByteArray) : List (List UInt8) := ss.map (·.data.toList)

end Go.Proofs.YtfkflgcifddnnaaDoor
