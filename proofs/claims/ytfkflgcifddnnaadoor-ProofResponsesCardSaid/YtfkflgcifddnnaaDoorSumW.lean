/- sum.word: four bytes as a word. -/
import Derived.Test.YtfkflgcifddnnaaDoorSumR
import Derived.Test.YtfkflgcifddnnaaDoorStr
import Derived.BigRegion
namespace Go.Proofs.YtfkflgcifddnnaaDoor
open Go.RowKit

theorem or_plus (x y i : Nat) (h : x < 2 ^ i) : x ||| y * 2 ^ i = x + y * 2 ^ i := by
  rw [Nat.or_comm, Nat.mul_comm, ← Nat.two_pow_add_eq_or_of_lt h]; omega
theorem word_bits (a b c d : Nat) (ha : a < 256) (hb : b < 256) (hc : c < 256) (hd : d < 256) :
    bits .or .u32 (bits .or .u32 (bits .or .u32 ((a : Int) % 4294967296) ((b : Int) % 4294967296 * 256 % 4294967296)) ((c : Int) % 4294967296 * 65536 % 4294967296)) ((d : Int) % 4294967296 * 16777216 % 4294967296)
      = ((a + b * 256 + c * 65536 + d * 16777216 : Nat) : Int) := by
  rw [show (a : Int) % 4294967296 = ((a : Nat) : Int) by omega, show (b : Int) % 4294967296 * 256 % 4294967296 = ((b * 2 ^ 8 : Nat) : Int) by omega,
    show (c : Int) % 4294967296 * 65536 % 4294967296 = ((c * 2 ^ 16 : Nat) : Int) by omega, show (d : Int) % 4294967296 * 16777216 % 4294967296 = ((d * 2 ^ 24 : Nat) : Int) by omega]
  rw [u32_or _ _ (by omega) (by omega), or_plus a b 8 (by omega), u32_or _ _ (by omega) (by omega), or_plus _ c 16 (by omega), u32_or _ _ (by omega) (by omega), or_plus _ d 24 (by omega)]
theorem getD_byte (s : ByteArray) (k : Nat) (h : k < s.size) : s.data.toList.getD k 0 = s[k] := by
  have hl : k < s.data.toList.length := by rw [← sz_len]; exact h
  rw [List.getD_eq_getElem?_getD, List.getElem?_eq_getElem hl, at_list s k h hl]
  rfl
set_option maxRecDepth 100000 in
theorem sumWordQL (s : ByteArray) (h4 : 4 ≤ s.size) (w : World) : Calls Tryd.prog 64 #[.string s, .bool true] w fun e w' => e = .returned (.int .u32 (numL true s.data.toList 0 : Nat)) ∧ ∃ m, w' = w.drewN m := by
  have i0 : 0 < s.size := by omega
  have i1 : 1 < s.size := by omega
  have i2 : 2 < s.size := by omega
  have i3 : 3 < s.size := by omega
  have j0 : (0 : Int) < (s.size : Int) := by omega
  have j1 : (1 : Int) < (s.size : Int) := by omega
  have j2 : (2 : Int) < (s.size : Int) := by omega
  have j3 : (3 : Int) < (s.size : Int) := by omega
  have hw := Lib.hid (word_bits s[0].toNat s[1].toNat s[2].toNat s[3].toNat s[0].toNat_lt s[1].toNat_lt s[2].toNat_lt s[3].toNat_lt)
  go_enter Tryd.func64, Tryd.ntmps64
  go_wp2
  go_region
  go_wp2
  go_ret
  refine ⟨ret_int ?_, 1, rfl⟩
  rw [hw.out]
  unfold numL
  simp only [Nat.zero_add, getD_byte s 0 i0, getD_byte s 1 i1, getD_byte s 2 i2, getD_byte s 3 i3]
  first | rfl | simp
theorem sumWordL (s : ByteArray) (h4 : 4 ≤ s.size) (w : World) : Calls Tryd.prog 64 #[.string s, .bool true] w fun e w' => e = .returned (.int .u32 (numL true s.data.toList 0 : Nat)) ∧ Below w.heap.size w w' :=
  (sumWordQL s h4 w).mono fun _ _ ⟨h, m, hm⟩ => ⟨h, by rw [hm]; exact below_drewN (Below.refl _ _) m⟩
set_option maxRecDepth 100000 in
theorem sumWordQB (s : ByteArray) (h4 : 4 ≤ s.size) (w : World) : Calls Tryd.prog 64 #[.string s, .bool false] w fun e w' => e = .returned (.int .u32 (numL false s.data.toList 0 : Nat)) ∧ ∃ m, w' = w.drewN m := by
  have i0 : 0 < s.size := by omega
  have i1 : 1 < s.size := by omega
  have i2 : 2 < s.size := by omega
  have i3 : 3 < s.size := by omega
  have j0 : (0 : Int) < (s.size : Int) := by omega
  have j1 : (1 : Int) < (s.size : Int) := by omega
  have j2 : (2 : Int) < (s.size : Int) := by omega
  have j3 : (3 : Int) < (s.size : Int) := by omega
  have hw := Lib.hid (word_bits s[3].toNat s[2].toNat s[1].toNat s[0].toNat s[3].toNat_lt s[2].toNat_lt s[1].toNat_lt s[0].toNat_lt)
  go_enter Tryd.func64, Tryd.ntmps64
  go_wp2
  go_region
  go_wp2
  go_ret
  refine ⟨ret_int ?_, 1, rfl⟩
  rw [hw.out]
  unfold numL
  simp only [Nat.zero_add, getD_byte s 0 i0, getD_byte s 1 i1, getD_byte s 2 i2, getD_byte s 3 i3]
  first | rfl | simp
theorem sumWordB (s : ByteArray) (h4 : 4 ≤ s.size) (w : World) : Calls Tryd.prog 64 #[.string s, .bool false] w fun e w' => e = .returned (.int .u32 (numL false s.data.toList 0 : Nat)) ∧ Below w.heap.size w w' :=
  (sumWordQB s h4 w).mono fun _ _ ⟨h, m, hm⟩ => ⟨h, by rw [hm]; exact below_drewN (Below.refl _ _) m⟩
theorem sumWord (little : Bool) (s : ByteArray) (h4 : 4 ≤ s.size) (w : World) : Calls Tryd.prog 64 #[.string s, .bool little] w fun e w' => e = .returned (.int .u32 (numL little s.data.toList 0 : Nat)) ∧ Below w.heap.size w w' := by
  cases little
  · exact sumWordB s h4 w
  · exact sumWordL s h4 w
end Go.Proofs.YtfkflgcifddnnaaDoor
