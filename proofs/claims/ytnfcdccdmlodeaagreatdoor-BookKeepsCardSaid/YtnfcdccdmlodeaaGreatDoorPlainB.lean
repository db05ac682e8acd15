/- fetch.unsafe, fetch.language; what both sides ask of a header, plain. -/
import Derived.Test.YtnfcdccdmlodeaaGreatDoorCurs
import Derived.Test.YtnfcdccdmlodeaaGreatDoorFoun2
namespace Go.Proofs.YtnfcdccdmlodeaaGreatDoor
open Go.RowKit
def marks3 : List UInt8 := [34, 40, 41, 58, 60, 62, 63, 64, 91, 92, 93, 123, 125]
def marks4 : List UInt8 := [32, 42, 44, 45, 46, 59, 61]
def safeB (c : UInt8) : Bool := textB c && decide (Lib.indexByte marks3 c < 0)
def tongueB (c : UInt8) : Bool := decide (48 ≤ c.toNat ∧ c.toNat ≤ 57 ∨ 97 ≤ c.toNat ∧ c.toNat ≤ 122 ∨ 65 ≤ c.toNat ∧ c.toNat ≤ 90 ∨ 0 ≤ Lib.indexByte marks4 c)
def acceptL : List UInt8 := [97, 99, 99, 101, 112, 116]
def acceptLangL : List UInt8 := [97, 99, 99, 101, 112, 116, 45, 108, 97, 110, 103, 117, 97, 103, 101]
def contentLangL : List UInt8 := [99, 111, 110, 116, 101, 110, 116, 45, 108, 97, 110, 103, 117, 97, 103, 101]
def contentTypeL : List UInt8 := [99, 111, 110, 116, 101, 110, 116, 45, 116, 121, 112, 101]
def kindsL : List (List UInt8) := [[97, 112, 112, 108, 105, 99, 97, 116, 105, 111, 110, 47, 120, 45, 119, 119, 119, 45, 102, 111, 114, 109, 45, 117, 114, 108, 101, 110, 99, 111, 100, 101, 100], [109, 117, 108, 116, 105, 112, 97, 114, 116, 47, 102, 111, 114, 109, 45, 100, 97, 116, 97], [116, 101, 120, 116, 47, 112, 108, 97, 105, 110]]
/-- the kind that a value tells -/
def kindOf (v : List UInt8) : List UInt8 := lower (Lib.trimS (befL 59 v) [32, 9])
/-- whether a header may be sent without asking -/
def plainB (n v : List UInt8) : Bool :=
  if 128 < v.length then false
  else if lower n == acceptL then v.all safeB
  else if lower n == acceptLangL || lower n == contentLangL then v.all tongueB
  else if lower n == contentTypeL then v.all safeB && kindsL.contains (kindOf v)
  else false
theorem fetchUnsafe (c : UInt8) (w : World) : Calls Tryz.prog 196 #[.int .u8 c.toNat] w fun e w' => e = .returned (.bool (!safeB c)) ∧ w = w' := by
  have hb := bd8 c
  by_cases h9 : c = 9
  · subst h9
    go_enter Tryz.func196, Tryz.ntmps196
    go_wp2_with (go_at_call 130; refine (Tryz.strings_IndexByte _ _ _).mono ?_; rintro e w' ⟨rfl, rfl⟩)
    go_ret
    exact ⟨ret_bool (by decide), rfl⟩
  · have h9' : ¬(c.toNat : Int) = 9 := by
      intro h
      apply h9
      apply UInt8.toNat.inj
      show c.toNat = 9
      omega
    clear h9
    go_enter Tryz.func196, Tryz.ntmps196
    go_wp2_with (go_at_call 130; refine (Tryz.strings_IndexByte _ _ _).mono ?_; rintro e w' ⟨rfl, rfl⟩)
    all_goals go_ret
    all_goals
      refine ⟨ret_bool ?_, rfl⟩
      unfold safeB textB marks3
      rw [Bool.eq_iff_iff]
      simp
      try omega
def tongues (l : List UInt8) : Bool := l.all tongueB
theorem all_false (p : UInt8 → Bool) (s : ByteArray) (k : Nat) (h : k < s.size) (hb : p s[k] = false) : s.data.toList.all p = false := not_all p s k h hb
set_option maxRecDepth 100000 in
set_option maxHeartbeats 1000000 in
theorem fetchLanguage (s : ByteArray) (w : World) (hs : s.size ≤ maxLen) :
    Calls Tryz.prog 197 #[.string s] w fun e w' => e = .returned (.bool (tongues s.data.toList)) ∧ w = w' := by
  unfold maxLen at hs
  go_enter Tryz.func197, Tryz.ntmps197
  go_wp2
  go_loop [7] (fun i => ∃ k : Nat, k ≤ s.size ∧ i = .int .i64 k ∧ Hid ((s.data.toList.take k).all tongueB = true)) (fun i => s.size - (intOf i).toNat)
  case atStart => exact ⟨0, Nat.zero_le _, rfl, Lib.hid (by simp)⟩
  case round =>
    obtain ⟨k, hk, rfl, ha⟩ := hrel
    by_cases hlt : k < s.size
    · have hb := bd8 s[k]
      cases ht : tongueB s[k]
      · have hn := Lib.hid (not_all tongueB s k hlt ht)
        have ht' := Lib.hid ht
        have hidx : ¬(0 : Int) ≤ Lib.indexByte marks4 s[k] := by
          intro h; unfold tongueB at ht; simp [h] at ht
        have hc1 : ¬(48 ≤ s[k].toNat ∧ s[k].toNat ≤ 57) := by intro h; unfold tongueB at ht; simp [h] at ht
        have hc2 : ¬(97 ≤ s[k].toNat ∧ s[k].toNat ≤ 122) := by intro h; unfold tongueB at ht; simp [h] at ht
        have hc3 : ¬(65 ≤ s[k].toNat ∧ s[k].toNat ≤ 90) := by intro h; unfold tongueB at ht; simp [h] at ht
        have hi := Tryz.strings_IndexByte ⟨marks4.toArray⟩ (s[k].toNat : Int)
        rw [mk_toList, u8_back] at hi
        obtain ⟨ix, hix⟩ : ∃ ix : Int, ix = Lib.indexByte marks4 s[k] := ⟨_, rfl⟩
        rw [← hix] at hi hidx
        clear ht hix
        go_wp2_with (go_at_call 130; refine (hi _).mono ?_; rintro e w' ⟨rfl, rfl⟩)
        all_goals go_ret
        all_goals exact ⟨by unfold tongues; rw [hn.out]; first | done | rfl, rfl⟩
      · have hn := Lib.hid (all_take_succ tongueB s k hlt ha.out ht)
        have hc : 48 ≤ s[k].toNat ∧ s[k].toNat ≤ 57 ∨ 97 ≤ s[k].toNat ∧ s[k].toNat ≤ 122 ∨ 65 ≤ s[k].toNat ∧ s[k].toNat ≤ 90 ∨ 0 ≤ Lib.indexByte marks4 s[k] := by
          unfold tongueB at ht; simpa using ht
        have hi := Tryz.strings_IndexByte ⟨marks4.toArray⟩ (s[k].toNat : Int)
        rw [mk_toList, u8_back] at hi
        obtain ⟨ix, hix⟩ : ∃ ix : Int, ix = Lib.indexByte marks4 s[k] := ⟨_, rfl⟩
        rw [← hix] at hi hc
        clear ht hix
        go_wp2_with (go_at_call 130; refine (hi _).mono ?_; rintro e w' ⟨rfl, rfl⟩)
        all_goals first
          | (exfalso; omega)
          | (go_round
             case rel => exact ⟨k + 1, by omega, by go_num, hn⟩
             case measure => simp [intOf]; omega)
    · obtain rfl : s.size = k := by omega
      have hn := Lib.hid (all_take_all tongueB s ha.out)
      go_wp2
      go_ret
      exact ⟨by unfold tongues; rw [hn.out]; first | done | rfl, rfl⟩
end Go.Proofs.YtnfcdccdmlodeaaGreatDoor
