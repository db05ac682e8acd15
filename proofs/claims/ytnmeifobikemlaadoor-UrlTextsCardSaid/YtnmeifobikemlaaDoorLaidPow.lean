/- A row that lists the tables of numbers' texts: what its list gives, and a world for the witness. -/
import Derived.Test.YtnmeifobikemlaaDoorItoa
import Derived.LaidHandle
namespace Go.Proofs.YtnmeifobikemlaaDoor
open Go.RowKit

def litVal : DataW Unit → Value
  | .lit (.int k z) => .int k z
  | _ => .nilIface
def rowVals : DataW Unit → Array Value
  | .agg l => (l.map litVal).toArray
  | _ => #[]
def tabs3 : List (String × DataW Unit) := Rows.urlTextsRow.laid
theorem pow_tab : (Rows.laid_internal_strconv_uint64pow10 : DataW Unit) = Lib.tabData .u64 Lib.pow10Tab := by rfl
theorem pow_of_laid {W : World} (h : laidMetH Tryd.prog Rows.urlTextsRow.laid W) : Pow W := by
  have h' : laidMet Tryd.prog Rows.urlTextsRow.laid W := h
  obtain ⟨ps, hv, _⟩ := h'
  obtain ⟨_, _, _, _, _, _, _, _, _, _, hv, _⟩ := hv
  obtain ⟨_, _, _, _, _, _, _, _, _, _, hv, _⟩ := hv
  obtain ⟨g', t', cs, fuel, p, q, hg', ht', hvar, hd, _, _⟩ := hv
  obtain rfl := Option.some.inj (powAt.symm.trans hg')
  obtain rfl := Option.some.inj ((show (Tryd.prog.globals[2]?).map (·.type) = some 168 by kernel_rfl).symm.trans ht')
  rw [pow_tab] at hd
  unfold Pow Lib.TabIs
  rw [hvar, ← Lib.cells_of_tab Tryd.underlying168 Tryd.underlying139 (by kernel_rfl) (by kernel_rfl) hd]

noncomputable def laidAt (g : Nat) (d : DataW Unit) (h : Array Obj) : Array Obj := h.modify g fun
  | .cells _ t frozen => .cells (rowVals d) t frozen
  | o => o
noncomputable def laidPow (os : Os) : World :=
  { World.holding Tryd.prog os ⟨#[], #[], []⟩ with heap := laidAt 6 Rows.laid_math_bits_deBruijn32tab (laidAt 7 Rows.laid_math_bits_deBruijn64tab (laidAt 2 Rows.laid_internal_strconv_uint64pow10 (World.holding Tryd.prog os ⟨#[], #[], []⟩).heap)) }
theorem laidPow_met (os : Os) (args : Array Value) : laidMetH Tryd.prog Rows.urlTextsRow.laid ((laidPow os).forCall (fun _ _ => 0) ⟨#[], args, []⟩).memory :=
  laidMetH_of_parts (laidMet_of_run' 80 (by kernel_rfl) (by kernel_rfl)) (by kernel_rfl)
end Go.Proofs.YtnmeifobikemlaaDoor
