/- slices.Contains over texts. -/
import Derived.Test.YtnfcdccdmlodeaaGreatDoorFound
namespace Go.Proofs.YtnfcdccdmlodeaaGreatDoor
open Go.RowKit
def hasS (ss : List ByteArray) (x : ByteArray) : Bool := ss.any (fun y => x.toList == y.toList)
theorem hasS_hit {ss : List ByteArray} {x : ByteArray} {k : Nat} (h : k < ss.length) (e : (x.toList == ss[k].toList) = true) : hasS ss x = true :=
  List.any_eq_true.2 ⟨ss[k], List.getElem_mem h, e⟩
theorem hasS_step {ss : List ByteArray} {x : ByteArray} {k : Nat} (h : k < ss.length) (h0 : hasS (ss.take k) x = false) (e : (x.toList == ss[k].toList) = false) : hasS (ss.take (k + 1)) x = false := by
  unfold hasS at *
  rw [List.take_succ_eq_append_getElem h, List.any_append, h0]; simp [e]
set_option maxRecDepth 100000 in
theorem indexS (a : Option Addr) (cap : Nat) (ss : List ByteArray) (x : ByteArray) (w : World) (hA : StrAt w a ss) (hl : ss.length ≤ maxLen) :
    Calls Tryz.prog 266 #[.slice a ss.length cap, .string x] w fun e w' => ∃ r : Int, e = .returned (.int .i64 r) ∧ decide (0 ≤ r) = hasS ss x ∧ w = w' := by
  unfold maxLen at hl
  go_enter Tryz.func266, Tryz.ntmps266
  go_wp2
  go_loopw [8] (fun i wr => ∃ k : Nat, k ≤ ss.length ∧ i = .int .i64 k ∧ Hid (hasS (ss.take k) x = false) ∧ w = wr) (fun i _ => ss.length - (intOf i).toNat)
  case atStart => exact ⟨0, Nat.zero_le _, rfl, Lib.hid (by simp [hasS]), rfl⟩
  case round =>
    obtain ⟨k, hk, rfl, h0, rfl⟩ := hrel
    by_cases hlt : k < ss.length
    · obtain ⟨b1, o1, rfl, h1⟩ := hA k hlt
      have hi0 : (0 : Int) ≤ (k : Int) := by omega
      cases he : (x.toList == ss[k].toList)
      · have hn := Lib.hid (hasS_step hlt h0.out he)
        generalize ss[k] = y at h1 he
        go_wp2
        go_roundw
        case rel => exact ⟨k + 1, by omega, by go_num, hn, by trivial⟩
        case measure => simp [intOf]; omega
      · have hn := Lib.hid (hasS_hit hlt he)
        generalize ss[k] = y at h1 he
        go_wp2
        go_ret
        exact ⟨(k : Int), rfl, by rw [hn.out]; simp, rfl⟩
    · obtain rfl : ss.length = k := by omega
      have hn : Hid (hasS ss x = false) := Lib.hid (by have := h0.out; rwa [List.take_length] at this)
      go_wp2
      go_ret
      exact ⟨-1, rfl, by rw [hn.out]; rfl, rfl⟩
set_option maxRecDepth 100000 in
theorem containsS (a : Option Addr) (cap : Nat) (ss : List ByteArray) (x : ByteArray) (w : World) (hA : StrAt w a ss) (hl : ss.length ≤ maxLen) :
    Calls Tryz.prog 198 #[.slice a ss.length cap, .string x] w fun e w' => e = .returned (.bool (hasS ss x)) ∧ w = w' := by
  go_enter Tryz.func198, Tryz.ntmps198
  go_wp2_with fail
  refine (indexS a cap ss x w hA hl).mono ?_
  rintro e w1 ⟨r, rfl, hr, rfl⟩
  have hr' := Lib.hid hr
  clear hr
  go_wp2
  go_ret
  exact ⟨by rw [← hr'.out]; rfl, rfl⟩
end Go.Proofs.YtnfcdccdmlodeaaGreatDoor
