/- Bytes and words of headers: token.Byte, token.Is, and the reference's TokenByte, Token. -/
import Derived.Test.YtfkflgcifddnnaaDoorBase
import Derived.Test.YtfkflgcifddnnaaDoorShelf
namespace Go.Proofs.YtfkflgcifddnnaaDoor
open Go.RowKit

theorem bd8 (c : UInt8) : (0 : Int) ≤ c.toNat ∧ (c.toNat : Int) < 256 := ⟨by omega, by have := c.toNat_lt; omega⟩
theorem u8_back (c : UInt8) : ((c.toNat : Int).toNat).toUInt8 = c := by simp

def marks1 : List UInt8 := [33, 35, 36, 37, 38, 39, 42, 43, 45, 46, 94, 95, 124, 126, 96]
def marks2 : List UInt8 := [34, 40, 41, 44, 47, 58, 59, 60, 61, 62, 63, 64, 91, 92, 93, 123, 125]
/-- a byte of a word, as the program asks -/
def tokB (c : UInt8) : Bool := decide (48 ≤ c.toNat ∧ c.toNat ≤ 57 ∨ 97 ≤ c.toNat ∧ c.toNat ≤ 122 ∨ 65 ≤ c.toNat ∧ c.toNat ≤ 90 ∨ 0 ≤ Lib.indexByte marks1 c)
theorem tokB_ref (c : UInt8) : (decide (33 ≤ c.toNat ∧ c.toNat ≤ 126 ∧ Lib.indexByte marks2 c < 0)) = tokB c := by
  have h : ∀ n : Fin 256, (decide (33 ≤ (UInt8.ofNat n).toNat ∧ (UInt8.ofNat n).toNat ≤ 126 ∧ Lib.indexByte marks2 (UInt8.ofNat n) < 0)) = tokB (UInt8.ofNat n) := by decide +kernel
  simpa using h ⟨c.toNat, c.toNat_lt⟩

theorem tokenByte (c : UInt8) (w : World) :
    Calls Tryd.prog 196 #[.int .u8 c.toNat] w fun e w' => e = .returned (.bool (tokB c)) ∧ w = w' := by
  have hb := bd8 c
  go_enter Tryd.func196, Tryd.ntmps196
  go_wp2_with (go_at_call 146; refine (Tryd.strings_IndexByte _ _ _).mono ?_; rintro e w' ⟨rfl, rfl⟩)
  all_goals go_ret
  all_goals
    refine ⟨ret_bool ?_, rfl⟩
    unfold tokB marks1
    rw [Bool.eq_iff_iff]
    simp
    try omega

theorem refTokenByte (c : UInt8) (w : World) :
    Calls Tryd.prog 145 #[.int .u8 c.toNat] w fun e w' => e = .returned (.bool (tokB c)) ∧ w = w' := by
  have hb := bd8 c
  go_enter Tryd.func145, Tryd.ntmps145
  go_wp2_with fail
  refine (within_any _ _ _ _).mono ?_
  rintro e w' ⟨rfl, rfl⟩
  go_wp2_with (go_at_call 146; refine (Tryd.strings_IndexByte _ _ _).mono ?_; rintro e w' ⟨rfl, rfl⟩)
  all_goals go_ret
  all_goals
    refine ⟨ret_bool ?_, rfl⟩
    rw [← tokB_ref]
    unfold marks2
    rw [Bool.eq_iff_iff]
    simp
    try omega

/-- a word: one byte at least, each one of a word's -/
def tokW (l : List UInt8) : Bool := l != [] && l.all tokB

theorem size_data (s : ByteArray) : s.size = s.data.toList.length := Lib.size_eq s
theorem data_getElem (s : ByteArray) (k : Nat) (_h : k < s.size) (h' : k < s.data.toList.length) : s.data.toList[k] = s[k] := by simp; rfl
theorem all_take_succ (p : UInt8 → Bool) (s : ByteArray) (k : Nat) (h : k < s.size) (ha : (s.data.toList.take k).all p = true) (hb : p s[k] = true) : (s.data.toList.take (k + 1)).all p = true := by
  have h' : k < s.data.toList.length := by rw [← size_data]; exact h
  rw [List.take_succ_eq_append_getElem h', List.all_append, ha, data_getElem s k h h']; simp [hb]
theorem not_all (p : UInt8 → Bool) (s : ByteArray) (k : Nat) (h : k < s.size) (hb : p s[k] = false) : s.data.toList.all p = false := by
  have h' : k < s.data.toList.length := by rw [← size_data]; exact h
  rw [List.all_eq_false]
  exact ⟨s[k], by rw [← data_getElem s k h h']; exact List.getElem_mem _, by simp [hb]⟩
theorem all_take_all (p : UInt8 → Bool) (s : ByteArray) (ha : (s.data.toList.take s.size).all p = true) : s.data.toList.all p = true := by
  rwa [size_data, List.take_length] at ha

theorem tokW_false (s : ByteArray) (k : Nat) (h : k < s.size) (hb : tokB s[k] = false) : tokW s.data.toList = false := by
  unfold tokW; rw [not_all tokB s k h hb]; simp
theorem tokW_true (s : ByteArray) (h : 0 < s.size) (ha : (s.data.toList.take s.size).all tokB = true) : tokW s.data.toList = true := by
  unfold tokW; rw [all_take_all tokB s ha]
  rw [size_data] at h
  cases hl : s.data.toList with
  | nil => rw [hl] at h; simp at h
  | cons a l => rfl

set_option maxHeartbeats 400000 in
theorem refToken (s : ByteArray) (w : World) (hs : s.size ≤ maxLen) :
    Calls Tryd.prog 164 #[.string s] w fun e w' => e = .returned (.bool (tokW s.data.toList)) ∧ w = w' := by
  unfold maxLen at hs
  go_enter Tryd.func164, Tryd.ntmps164
  go_wp2
  go_loop [3] (fun i => ∃ k : Nat, k ≤ s.size ∧ i = .int .i64 k ∧ Hid ((s.data.toList.take k).all tokB = true)) (fun i => s.size - (intOf i).toNat)
  case atStart => exact ⟨0, Nat.zero_le _, rfl, Lib.hid (by simp)⟩
  case round =>
    obtain ⟨k, hk, rfl, ha⟩ := hrel
    by_cases hlt : k < s.size
    · cases hb : tokB s[k]
      · have hn := Lib.hid (tokW_false s k hlt hb)
        by_cases h0 : 0 < k
        all_goals
          go_wp2_with (go_at_call 145; refine (refTokenByte _ _).mono ?_; rintro e w' ⟨rfl, rfl⟩)
          go_ret
          exact ⟨ret_bool (by (rw [hn.out]) <;> (first | rfl | (simp; omega))), rfl⟩
      · have hn := Lib.hid (all_take_succ tokB s k hlt ha.out hb)
        go_wp2_with (go_at_call 145; refine (refTokenByte _ _).mono ?_; rintro e w' ⟨rfl, rfl⟩)
        go_round
        case rel => exact ⟨k + 1, by omega, by go_num, hn⟩
        case measure => simp [intOf]; omega
    · obtain rfl : s.size = k := by omega
      by_cases h0 : 0 < s.size
      · have ha' := Lib.hid (tokW_true s h0 ha.out)
        go_wp2
        go_ret
        exact ⟨ret_bool (by (rw [ha'.out]) <;> (first | rfl | (simp; done) | (simp; omega))), rfl⟩
      · have ha' : Hid (tokW s.data.toList = false) := Lib.hid (by
          have : s.data.toList = [] := by rw [size_data] at h0; cases hl : s.data.toList with
            | nil => rfl
            | cons a l => rw [hl] at h0; simp at h0
          rw [this]; rfl)
        go_wp2
        go_ret
        exact ⟨ret_bool (by (rw [ha'.out]) <;> (first | rfl | (simp; done) | (simp; omega))), rfl⟩

end Go.Proofs.YtfkflgcifddnnaaDoor
