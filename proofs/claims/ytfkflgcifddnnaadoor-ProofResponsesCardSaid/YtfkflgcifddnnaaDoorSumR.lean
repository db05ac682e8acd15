/- The reference's words of 32 bits: not, rol, ror. -/
import Derived.Test.YtfkflgcifddnnaaDoorSumP
namespace Go.Proofs.YtfkflgcifddnnaaDoor
open Go.RowKit

theorem refNot (n : Nat) (hn : n < 4294967296) (w : World) : Calls Tryd.prog 68 #[.int .i64 n] w fun e w' => e = .returned (.int .i64 (notN n : Nat)) ∧ w = w' := by
  go_enter Tryd.func68, Tryd.ntmps68
  go_wp2
  go_ret
  exact ⟨ret_int (by unfold notN; omega), rfl⟩
set_option maxRecDepth 100000 in
theorem refRol (n k : Nat) (hn : n < 4294967296) (hk : k ≤ 31) (w : World) : Calls Tryd.prog 70 #[.int .i64 n, .int .i64 k] w fun e w' => e = .returned (.int .i64 (rolN n k : Nat)) ∧ w = w' := by
  go_enter Tryd.func70, Tryd.ntmps70
  go_wp2
  go_loop [5, 7] (fun p i => ∃ j q : Nat, j ≤ k ∧ i = .int .i64 j ∧ p = .int .i64 q ∧ Hid (q = 2 ^ j) ∧ q ≤ 2147483648) (fun _ i => k - (intOf i).toNat)
  case atStart => exact ⟨0, 1, Nat.zero_le _, rfl, rfl, Lib.hid rfl, by decide⟩
  case round =>
    obtain ⟨j, q, hj, rfl, rfl, hq, hb⟩ := hrel
    by_cases hlt : j < k
    · have hq2 : q * 2 ≤ 2147483648 := by
        have h1 := hq.out
        have h2 : 2 ^ (j + 1) ≤ 2 ^ 31 := Nat.pow_le_pow_right (by decide) (by omega)
        rw [Nat.pow_succ] at h2
        rw [h1]
        simpa using h2
      go_wp2
      go_round
      case rel => exact ⟨j + 1, q * 2, by omega, by go_num, by go_num, Lib.hid (by rw [hq.out, Nat.pow_succ]), hq2⟩
      case measure => simp [intOf]; omega
    · have hjk : j = k := by omega
      have hm : n * q ≤ 4294967295 * 2147483648 := Nat.mul_le_mul (by omega) hb
      have hmi : (n : Int) * (q : Int) = ((n * q : Nat) : Int) := by simp
      have hr := Lib.hid (show rolN n k = n * q % 4294967296 + n * q / 4294967296 by unfold rolN; rw [← hjk, ← hq.out])
      clear hjk
      obtain ⟨m, hmm⟩ : ∃ m, m = n * q := ⟨_, rfl⟩
      rw [← hmm] at hr hm hmi
      clear hmm
      go_wp2
      go_ret
      exact ⟨ret_int (by rw [hr.out]; omega), rfl⟩
theorem refRor (n k : Nat) (hn : n < 4294967296) (hk : 1 ≤ k) (hk2 : k ≤ 32) (w : World) : Calls Tryd.prog 72 #[.int .i64 n, .int .i64 k] w fun e w' => e = .returned (.int .i64 (rolN n (32 - k) : Nat)) ∧ w = w' := by
  have hc := refRol n (32 - k) hn (by omega) w
  rw [show ((32 - k : Nat) : Int) = 32 - (k : Int) by omega] at hc
  go_enter Tryd.func72, Tryd.ntmps72
  go_wp2_with fail
  refine hc.mono ?_
  rintro e w' ⟨rfl, rfl⟩
  go_wp2
  go_ret
  exact ⟨rfl, rfl⟩
end Go.Proofs.YtfkflgcifddnnaaDoor
