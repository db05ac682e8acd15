/- math/bits.RotateLeft32 at a turn of at most 31. -/
import Derived.Test.YtfkflgcifddnnaaDoorSumW
namespace Go.Proofs.YtfkflgcifddnnaaDoor
open Go.RowKit

theorem and31 (k : Nat) (hk : k ≤ 31) : bits .and .u64 (k : Int) 31 = (k : Int) := by
  have : ∀ n : Fin 32, bits .and .u64 ((n.val : Nat) : Int) 31 = ((n.val : Nat) : Int) := by decide
  exact this ⟨k, by omega⟩
set_option maxRecDepth 100000 in
theorem rot_bits (n k : Nat) (hn : n < 4294967296) (hk : k ≤ 31) : bits .or .u32 ((n : Int) * 2 ^ k % 4294967296) ((n : Int) / 2 ^ (32 - k)) = ((rolN n k : Nat) : Int) := by
  have e1 : (n : Int) * 2 ^ k % 4294967296 = ((n * 2 ^ k % 4294967296 : Nat) : Int) := by
    have h : ((n * 2 ^ k : Nat) : Int) = (n : Int) * 2 ^ k := by rw [Int.natCast_mul, Int.natCast_pow]; rfl
    rw [← h]; omega
  have e2 : (n : Int) / 2 ^ (32 - k) = ((n / 2 ^ (32 - k) : Nat) : Int) := by
    have h : ((2 ^ (32 - k) : Nat) : Int) = (2 : Int) ^ (32 - k) := by rw [Int.natCast_pow]; rfl
    rw [← h]; first | rfl | exact (Int.natCast_ediv _ _).symm | exact (Int.natCast_div _ _).symm
  rw [e1, e2, u32_or _ _ (Nat.mod_lt _ (by decide)) (Nat.lt_of_le_of_lt (Nat.div_le_self _ _) hn), rol_or n k hn (by omega)]
set_option maxRecDepth 100000 in
theorem rotLeft (n k : Nat) (hn : n < 4294967296) (hk : k ≤ 31) (w : World) : Calls Tryd.prog 65 #[.int .u32 n, .int .i64 k] w fun e w' => e = .returned (.int .u32 (rolN n k : Nat)) ∧ w = w' := by
  have h31 := and31 k hk
  have hk1 : (k : Int) % 18446744073709551616 = (k : Int) := by omega
  go_enter Tryd.func65, Tryd.ntmps65
  go_wp2
  go_ret
  refine ⟨ret_int ?_, rfl⟩
  rw [rot_bits n k hn hk]
end Go.Proofs.YtfkflgcifddnnaaDoor
