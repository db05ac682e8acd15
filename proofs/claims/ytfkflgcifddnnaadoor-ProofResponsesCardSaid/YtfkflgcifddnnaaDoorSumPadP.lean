/- The eight bytes behind a text that is summed, cell by cell. -/
import Derived.Test.YtfkflgcifddnnaaDoorSumP
import Derived.Test.YtfkflgcifddnnaaDoorBlk
namespace Go.Proofs.YtfkflgcifddnnaaDoor
open Go.RowKit

theorem make8 (w : World) : (Instr.makeSlice 134 (.int .i64 8) (.int .i64 8)).run Tryd.prog w = .ok (.slice (some ⟨w.heap.size, 0, none⟩) 8 8) (w.alloc (.cells #[.int .u8 0, .int .u8 0, .int .u8 0, .int .u8 0, .int .u8 0, .int .u8 0, .int .u8 0, .int .u8 0] 5)) := by kernel_rfl
def eB (n k : Nat) : Nat := n / 2 ^ (8 * k) % 256
def vK (n k i : Nat) : Value := .int .u8 (if i < k then (eB n i : Nat) else (0 : Int))
def rowK (n k : Nat) : Array Value := #[vK n k 0, vK n k 1, vK n k 2, vK n k 3, vK n k 4, vK n k 5, vK n k 6, vK n k 7]
theorem rowK_at (n k i : Nat) (hi : i < 8) : (rowK n k)[i]? = some (vK n k i) := by
  match i, hi with
  | 0, _ => rfl
  | 1, _ => rfl
  | 2, _ => rfl
  | 3, _ => rfl
  | 4, _ => rfl
  | 5, _ => rfl
  | 6, _ => rfl
  | 7, _ => rfl
theorem rowK_set (n k : Nat) (hk : k < 8) : (rowK n k).setIfInBounds k (.int .u8 (eB n k : Nat)) = rowK n (k + 1) := by
  match k, hk with
  | 0, _ => simp [rowK, vK]
  | 1, _ => simp [rowK, vK]
  | 2, _ => simp [rowK, vK]
  | 3, _ => simp [rowK, vK]
  | 4, _ => simp [rowK, vK]
  | 5, _ => simp [rowK, vK]
  | 6, _ => simp [rowK, vK]
  | 7, _ => simp [rowK, vK]
theorem eight_at (n j : Nat) (hj : j < (eight true n).length) : (eight true n)[j].toNat = eB n j := by
  have h8 : j < 8 := by rw [eight_length] at hj; exact hj
  match j, h8 with
  | 0, _ => simp [eight, eB]
  | 1, _ => simp [eight, eB]
  | 2, _ => simp [eight, eB]
  | 3, _ => simp [eight, eB]
  | 4, _ => simp [eight, eB]
  | 5, _ => simp [eight, eB]
  | 6, _ => simp [eight, eB]
  | 7, _ => simp [eight, eB]
def vM (n k i : Nat) : Value := .int .u8 (if i < k then (eB n (7 - i) : Nat) else (0 : Int))
def rowM (n k : Nat) : Array Value := #[vM n k 0, vM n k 1, vM n k 2, vM n k 3, vM n k 4, vM n k 5, vM n k 6, vM n k 7]
theorem rowM_at (n k i : Nat) (hi : i < 8) : (rowM n k)[i]? = some (vM n k i) := by
  match i, hi with
  | 0, _ => rfl
  | 1, _ => rfl
  | 2, _ => rfl
  | 3, _ => rfl
  | 4, _ => rfl
  | 5, _ => rfl
  | 6, _ => rfl
  | 7, _ => rfl
theorem rowM_set (n k : Nat) (hk : k < 8) : (rowM n k).setIfInBounds k (.int .u8 (eB n (7 - k) : Nat)) = rowM n (k + 1) := by
  match k, hk with
  | 0, _ => simp [rowM, vM]
  | 1, _ => simp [rowM, vM]
  | 2, _ => simp [rowM, vM]
  | 3, _ => simp [rowM, vM]
  | 4, _ => simp [rowM, vM]
  | 5, _ => simp [rowM, vM]
  | 6, _ => simp [rowM, vM]
  | 7, _ => simp [rowM, vM]
theorem eight_atB (n j : Nat) (hj : j < (eight false n).length) : (eight false n)[j].toNat = eB n (7 - j) := by
  have h8 : j < 8 := by rw [eight_length] at hj; exact hj
  match j, h8 with
  | 0, _ => simp [eight, eB]
  | 1, _ => simp [eight, eB]
  | 2, _ => simp [eight, eB]
  | 3, _ => simp [eight, eB]
  | 4, _ => simp [eight, eB]
  | 5, _ => simp [eight, eB]
  | 6, _ => simp [eight, eB]
  | 7, _ => simp [eight, eB]
end Go.Proofs.YtfkflgcifddnnaaDoor
