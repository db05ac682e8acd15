/- The statements' own comparisons: lists of texts, lists of parameters; wordy. -/
import Derived.Test.YtinlahahbhpppaaReq
import Derived.Test.YtinlahahbhpppaaFound
import Derived.Deep.QuietTactic
import Derived.BigQuiet
import Derived.Laws.StructEq
namespace Go.Proofs.Ytinlahahbhpppaa
open Go.RowKit
theorem par_neq (x y : ByteArray) (w : World) : (binOp .neq 52 (.agg #[.string x, .string y]) (.agg #[.string x, .string y])).run Try.prog w = .ok (.bool false) w := by
  have u3 := Try.underlying9
  have hS : Try.prog.underlying 52 = some (.struct (Try.prog.fieldsOf 52)) := by kernel_rfl
  have hp : Try.prog.stoodInHeld 52 = false := by kernel_rfl
  rw [run_neq_struct, show (10000 : Nat) = 9999 + 1 from rfl, run_equalIn_agg w 9999 52 _ _ hS hp]
  simp only [Program.fieldsOf, Try.underlying52]
  go_simp
theorem par_guard : Try.prog.eqGuardType Try.prog.depth 52 = false := by kernel_rfl
theorem parAt_row {w : World} {a : Option Addr} {ps : List (ByteArray × ByteArray)} (h : RowAt 2 encPar w a ps) : ParAt w a ps := by
  intro i hi
  obtain ⟨b, off, e, hc⟩ := h i hi
  exact ⟨b, off, e, hc 0 _ rfl, hc 1 _ rfl⟩
set_option maxRecDepth 100000 in
theorem sameParams_yes (a b : Option Addr) (ca cb : Nat) (ps : List (ByteArray × ByteArray)) (w : World) (hA : ParAt w a ps) (hB : ParAt w b ps) (hl : ps.length ≤ 1048576) :
    Calls Try.prog 22 #[.slice a ps.length ca, .slice b ps.length cb] w fun e w' => e = .returned (.bool true) ∧ Below w.heap.size w w' := by
  have hne : ((ps.length : Int) != ps.length) = false := by simp
  have hg := par_guard
  go_enter Try.func22, Try.ntmps22
  go_wp2
  go_loopw [5] (fun i wr => ∃ k : Nat, k ≤ ps.length ∧ i = .int .i64 k ∧ Below w.heap.size w wr) (fun i _ => ps.length - (intOf i).toNat)
  case atStart => exact ⟨0, Nat.zero_le _, rfl, Below.refl _ _⟩
  case round =>
    obtain ⟨k, hk, rfl, hBe⟩ := hrel
    by_cases hlt : k < ps.length
    · obtain ⟨b1, o1, rfl, h1, h1'⟩ := (hA.later hBe) k hlt
      obtain ⟨b2, o2, rfl, h2, h2'⟩ := (hB.later hBe) k hlt
      have hs := fun w => par_neq ps[k].1 ps[k].2 w
      generalize ps[k].1 = x at h1 h2 hs
      generalize ps[k].2 = y at h1' h2' hs
      have hi0 : (0 : Int) ≤ (k : Int) := by omega
      have hi1 : (k : Int) < (ps.length : Int) := by omega
      go_wp2
      go_quiet (fail)
      go_wp2
      go_roundw
      case rel => exact ⟨k + 1, by omega, by go_num, below_drewN hBe _⟩
      case measure => simp [intOf]; omega
    · obtain rfl : ps.length = k := by omega
      go_wp2
      go_ret
      exact ⟨rfl, hBe⟩
def wordyB (n : Nat) : Bool := decide (800 < n ∧ n ≤ 3000 ∨ 3009 < n)
end Go.Proofs.Ytinlahahbhpppaa
