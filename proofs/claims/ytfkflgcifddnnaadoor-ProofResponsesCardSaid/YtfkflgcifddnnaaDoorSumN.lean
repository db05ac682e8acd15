/- The reference's number: four bytes of a row as a word. -/
import Derived.Test.YtfkflgcifddnnaaDoorSumR
import Derived.Test.YtfkflgcifddnnaaDoorStr
namespace Go.Proofs.YtfkflgcifddnnaaDoor
open Go.RowKit

def accN (g : Nat → Nat) : Nat → Nat
  | 0 => 0
  | j + 1 => accN g j * 256 + g j
theorem accN_le (g : Nat → Nat) (hg : ∀ i, g i < 256) (j : Nat) (h : j ≤ 4) : accN g j ≤ 4294967295 := by
  have h0 := hg 0; have h1 := hg 1; have h2 := hg 2; have h3 := hg 3
  match j, h with
  | 0, _ => simp [accN]
  | 1, _ => simp only [accN]; omega
  | 2, _ => simp only [accN]; omega
  | 3, _ => simp only [accN]; omega
  | 4, _ => simp only [accN]; omega
set_option maxRecDepth 100000 in
theorem refNumberL (B o len cap : Nat) (b : Nat → Nat) (hb : ∀ i, b i < 256) (w : World) (hl : 4 ≤ len) (hc : ∀ i, i < 4 → w.cell? ⟨B, o + i, none⟩ = some (.int .u8 (b i : Nat))) :
    Calls Tryd.prog 69 #[.slice (some ⟨B, o, none⟩) len cap, .bool true] w fun e w' => e = .returned (.int .i64 (accN (fun j => b (3 - j)) 4 : Nat)) ∧ w = w' := by
  go_enter Tryd.func69, Tryd.ntmps69
  go_wp2
  go_loop [5, 6, 7, 8] (fun acc _ _ i => ∃ j q : Nat, j ≤ 4 ∧ i = .int .i64 j ∧ acc = .int .i64 q ∧ Hid (q = accN (fun j => b (3 - j)) j) ∧ q ≤ 4294967295) (fun _ _ _ i => 4 - (intOf i).toNat)
  case atStart => exact ⟨0, 0, Nat.zero_le _, rfl, rfl, Lib.hid rfl, by decide⟩
  case round =>
    obtain ⟨j, q, hj, rfl, rfl, hq, hle⟩ := hrel
    by_cases hlt : j < 4
    · have c1 := hc j hlt
      have c2 := hc (3 - j) (by omega)
      have b1 := hb (3 - j)
      have b0 := hb j
      have hi1 : (3 - (j : Int)).toNat = 3 - j := by omega
      have hn := accN_le (fun j => b (3 - j)) (fun i => hb (3 - i)) (j + 1) (by omega)
      have hn' : q * 256 + b (3 - j) ≤ 4294967295 := by
        have : accN (fun j => b (3 - j)) (j + 1) = q * 256 + b (3 - j) := by rw [hq.out]; rfl
        omega
      have hq' := Lib.hid (show q * 256 + b (3 - j) = accN (fun j => b (3 - j)) (j + 1) by rw [hq.out]; rfl)
      clear hn
      generalize b (3 - j) = y at c2 b1 hn' hq'
      generalize b j = x at c1 b0
      clear hc hb
      go_wp2
      go_round
      case rel => exact ⟨j + 1, q * 256 + y, by omega, by go_num, by go_num, hq', hn'⟩
      case measure => simp [intOf]; omega
    · obtain rfl : j = 4 := by omega
      go_wp2
      go_ret
      exact ⟨ret_int (by rw [← hq.out]), rfl⟩
set_option maxRecDepth 100000 in
theorem refNumberB (B o len cap : Nat) (b : Nat → Nat) (hb : ∀ i, b i < 256) (w : World) (hl : 4 ≤ len) (hc : ∀ i, i < 4 → w.cell? ⟨B, o + i, none⟩ = some (.int .u8 (b i : Nat))) :
    Calls Tryd.prog 69 #[.slice (some ⟨B, o, none⟩) len cap, .bool false] w fun e w' => e = .returned (.int .i64 (accN b 4 : Nat)) ∧ w = w' := by
  go_enter Tryd.func69, Tryd.ntmps69
  go_wp2
  go_loop [5, 6, 7, 8] (fun acc _ _ i => ∃ j q : Nat, j ≤ 4 ∧ i = .int .i64 j ∧ acc = .int .i64 q ∧ Hid (q = accN b j) ∧ q ≤ 4294967295) (fun _ _ _ i => 4 - (intOf i).toNat)
  case atStart => exact ⟨0, 0, Nat.zero_le _, rfl, rfl, Lib.hid rfl, by decide⟩
  case round =>
    obtain ⟨j, q, hj, rfl, rfl, hq, hle⟩ := hrel
    by_cases hlt : j < 4
    · have c1 := hc j hlt
      have b1 := hb j
      have b0 := hb j
      have hi1 : (3 - (j : Int)).toNat = 3 - j := by omega
      have hn := accN_le (b) hb (j + 1) (by omega)
      have hn' : q * 256 + b j ≤ 4294967295 := by
        have : accN b (j + 1) = q * 256 + b j := by rw [hq.out]; rfl
        omega
      have hq' := Lib.hid (show q * 256 + b j = accN b (j + 1) by rw [hq.out]; rfl)
      clear hn
      generalize b j = y at c1 b0 hn' hq'
      clear hc hb
      go_wp2
      go_round
      case rel => exact ⟨j + 1, q * 256 + y, by omega, by go_num, by go_num, hq', hn'⟩
      case measure => simp [intOf]; omega
    · obtain rfl : j = 4 := by omega
      go_wp2
      go_ret
      exact ⟨ret_int (by rw [← hq.out]), rfl⟩
theorem accN_true (l : List UInt8) (k : Nat) : accN (fun j => (l.getD (k + (3 - j)) 0).toNat) 4 = numL true l k := by
  simp only [accN, numL]
  simp
  omega
theorem accN_false (l : List UInt8) (k : Nat) : accN (fun j => (l.getD (k + j) 0).toNat) 4 = numL false l k := by
  simp only [accN, numL]
  simp
  omega
end Go.Proofs.YtfkflgcifddnnaaDoor
