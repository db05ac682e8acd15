/- MD5's tables, as the program's variables hold them. -/
import Derived.Test.YtfkflgcifddnnaaDoorBase
import Derived.Test.YtfkflgcifddnnaaDoorRows
import Derived.Lib.LaidTab
namespace Go.Proofs.YtfkflgcifddnnaaDoor
open Go.RowKit

def sinesL : List Nat := match (Rows.laid_gatepost_api_Sines : DataW Unit) with
  | .agg l => l.map fun x => match x with
    | .lit (.int _ z) => z.toNat
    | _ => 0
  | _ => []
def turnsL : List Nat := [7, 12, 17, 22, 5, 9, 14, 20, 4, 11, 16, 23, 6, 10, 15, 21]
theorem sines_tab : (Rows.laid_gatepost_api_Sines : DataW Unit) = Lib.tabData .u32 (sinesL.map fun (n : Nat) => (n : Int)) := by kernel_rfl
theorem turns_tab : (Rows.laid_gatepost_sum_turns : DataW Unit) = Lib.tabData .i64 (turnsL.map fun (n : Nat) => (n : Int)) := by kernel_rfl
theorem sinesL_len : sinesL.length = 64 := by kernel_rfl
theorem turnsL_len : turnsL.length = 16 := rfl
theorem natMap_at (l : List Nat) (i : Nat) (h : i < l.length) : (l.map fun (n : Nat) => (n : Int)).getD i 0 = ((l.getD i 0 : Nat) : Int) := by
  rw [List.getD_eq_getElem?_getD, List.getElem?_map, List.getD_eq_getElem?_getD, List.getElem?_eq_getElem h]
  rfl
structure MdT (w : World) : Prop where
  sines : ∀ i, i < 64 → w.cell? ⟨0, i, none⟩ = some (.int .u32 (sinesL.getD i 0 : Nat))
  turns : ∀ i, i < 16 → w.cell? ⟨1, i, none⟩ = some (.int .i64 (turnsL.getD i 0 : Nat))
theorem MdT.later {w w' : World} (h : MdT w) (hb : Below w.heap.size w w') : MdT w' :=
  ⟨fun i hi => (hb.cell (World.block_lt_of_cell? w _ (h.sines i hi))).trans (h.sines i hi), fun i hi => (hb.cell (World.block_lt_of_cell? w _ (h.turns i hi))).trans (h.turns i hi)⟩
end Go.Proofs.YtfkflgcifddnnaaDoor
