/- The statements' own comparisons: lists of texts, lists of parameters; wordy. -/
import Derived.Test.YtchgpdgigpaloaaDoorReq
import Derived.Test.YtchgpdgigpaloaaDoorFound
import Derived.Deep.QuietTactic
import Derived.BigQuiet
import Derived.Laws.StructEq
namespace Go.Proofs.YtchgpdgigpaloaaDoor
open Go.RowKit
set_option maxRecDepth 100000 in
theorem sameTexts_yes (a b : Option Addr) (ca cb : Nat) (ss : List ByteArray) (w : World) (hA : StrAt w a ss) (hB : StrAt w b ss) (hl : ss.length ≤ maxLen) :
    Calls Tryd.prog 26 #[.slice a ss.length ca, .slice b ss.length cb] w fun e w' => e = .returned (.bool true) ∧ Below w.heap.size w w' := by
  unfold maxLen at hl
  have hne : ((ss.length : Int) != ss.length) = false := by simp
  go_enter Tryd.func26, Tryd.ntmps26
  go_wp2
  go_loopw [5] (fun i wr => ∃ k : Nat, k ≤ ss.length ∧ i = .int .i64 k ∧ Below w.heap.size w wr) (fun i _ => ss.length - (intOf i).toNat)
  case atStart => exact ⟨0, Nat.zero_le _, rfl, Below.refl _ _⟩
  case round =>
    obtain ⟨k, hk, rfl, hBe⟩ := hrel
    by_cases hlt : k < ss.length
    · obtain ⟨b1, o1, rfl, h1⟩ := (hA.later hBe) k hlt
      obtain ⟨b2, o2, rfl, h2⟩ := (hB.later hBe) k hlt
      have hs : (!(ss[k].toList == ss[k].toList)) = false := by simp
      generalize ss[k] = x at h1 h2 hs
      have hi0 : (0 : Int) ≤ (k : Int) := by omega
      have hi1 : (k : Int) < (ss.length : Int) := by omega
      go_wp2
      go_quiet (fail)
      go_wp2
      go_roundw
      case rel => exact ⟨k + 1, by omega, by go_num, below_drewN hBe _⟩
      case measure => simp [intOf]; omega
    · obtain rfl : ss.length = k := by omega
      go_wp2
      go_ret
      exact ⟨rfl, hBe⟩
theorem parAt_row {w : World} {a : Option Addr} {ps : List (ByteArray × ByteArray)} (h : RowAt 2 encPar w a ps) : ParAt w a ps := by
  intro i hi
  obtain ⟨b, off, e, hc⟩ := h i hi
  exact ⟨b, off, e, hc 0 _ rfl, hc 1 _ rfl⟩
def wordyB (n : Nat) : Bool := decide (800 < n ∧ n ≤ 3000 ∨ 3009 < n)
end Go.Proofs.YtchgpdgigpaloaaDoor
