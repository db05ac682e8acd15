/- Which bytes a url may hold: url.plain and the reference's sendable. -/
import Derived.Test.YthmkilglidfdiaaGreatDoorFoun2
import Derived.Test.YthmkilglidfdiaaGreatDoorUrlP
namespace Go.Proofs.YthmkilglidfdiaaGreatDoor
open Go.RowKit
def sendSet : List UInt8 := [45, 46, 95, 126, 33, 36, 38, 39, 40, 41, 42, 43, 44, 59, 61, 58, 64, 37, 47, 63]
def sendB (c : UInt8) : Bool := decide (97 ≤ c.toNat ∧ c.toNat ≤ 122) || decide (65 ≤ c.toNat ∧ c.toNat ≤ 90) || decide (48 ≤ c.toNat ∧ c.toNat ≤ 57) || sendSet.contains c
def sendChars : List UInt8 := [97, 98, 99, 100, 101, 102, 103, 104, 105, 106, 107, 108, 109, 110, 111, 112, 113, 114, 115, 116, 117, 118, 119, 120, 121, 122, 65, 66, 67, 68, 69, 70, 71, 72, 73, 74, 75, 76, 77, 78, 79, 80, 81, 82, 83, 84, 85, 86, 87, 88, 89, 90, 48, 49, 50, 51, 52, 53, 54, 55, 56, 57, 45, 46, 95, 126, 33, 36, 38, 39, 40, 41, 42, 43, 44, 59, 61, 58, 64, 37, 47, 63]
set_option maxRecDepth 100000 in
set_option maxHeartbeats 1000000 in
theorem refSendable (s : ByteArray) (w : World) (hs : s.size ≤ 1000000) :
    Calls Tryz.prog 11 #[.string s] w fun e w' => e = .returned (.bool (s.data.toList.all sendB)) ∧ w = w' := by
  obtain ⟨b, hb⟩ : ∃ b, s.data.toList.all sendB = b := ⟨_, rfl⟩
  rw [hb]
  have hbh := Lib.hid hb
  clear hb
  go_enter Tryz.func11, Tryz.ntmps11
  go_wp2
  go_loop [7] (fun i => ∃ k : Nat, k ≤ s.size ∧ i = .int .i64 k ∧ Hid ((s.data.toList.take k).all sendB = true)) (fun i => s.size - (intOf i).toNat)
  case atStart => exact ⟨0, Nat.zero_le _, rfl, Lib.hid (by simp)⟩
  case round =>
    obtain ⟨k, hk, rfl, ha⟩ := hrel
    by_cases hlt : k < s.size
    · have hl : k < s.data.toList.length := by rw [← sz_len]; exact hlt
      have hc256 : (s[k].toNat : Int) < 256 := by have := s[k].toNat_lt; omega
      have hib := fun w' => Tryz.strings_IndexByte ⟨sendSet.toArray⟩ (s[k].toNat : Int) w'
      rw [show (⟨sendSet.toArray⟩ : ByteArray).data.toList = sendSet from rfl, show ((s[k].toNat : Int).toNat.toUInt8) = s[k] by simp] at hib
      by_cases h1 : 97 ≤ s[k].toNat ∧ s[k].toNat ≤ 122
      · clear hib
        have hnext : Hid ((s.data.toList.take (k + 1)).all sendB = true) := Lib.hid (by
          rw [List.take_succ_eq_append_getElem hl, List.all_append, ha.out, at_list s k hlt hl]; simp [sendB, h1.1, h1.2])
        have hin97 := fun w' => within_any (s[k].toNat : Int) 97 122 w'
        rw [show (decide ((97 : Int) ≤ (s[k].toNat : Int)) && decide ((s[k].toNat : Int) ≤ 122)) = true by simp; omega] at hin97
        go_wp2_with (first | (go_at_call_of 26 (Value.int .i64 97); refine (hin97 _).mono ?_; rintro e w2 ⟨rfl, rfl⟩) | (go_at_call_of 26 (Value.int .i64 65); refine (hin65 _).mono ?_; rintro e w2 ⟨rfl, rfl⟩) | (go_at_call_of 26 (Value.int .i64 48); refine (hin48 _).mono ?_; rintro e w2 ⟨rfl, rfl⟩) | (go_at_call 10; refine (hib _).mono ?_; rintro e w2 ⟨rfl, rfl⟩))
        go_round
        case rel => exact ⟨k + 1, by omega, by go_num, hnext⟩
        case measure => simp [intOf]; omega
      · by_cases h2 : 65 ≤ s[k].toNat ∧ s[k].toNat ≤ 90
        · clear hib
          have hnext : Hid ((s.data.toList.take (k + 1)).all sendB = true) := Lib.hid (by
            rw [List.take_succ_eq_append_getElem hl, List.all_append, ha.out, at_list s k hlt hl]; simp [sendB, h2.1, h2.2])
          have hin97 := fun w' => within_any (s[k].toNat : Int) 97 122 w'
          rw [show (decide ((97 : Int) ≤ (s[k].toNat : Int)) && decide ((s[k].toNat : Int) ≤ 122)) = false by simp; omega] at hin97
          have hin65 := fun w' => within_any (s[k].toNat : Int) 65 90 w'
          rw [show (decide ((65 : Int) ≤ (s[k].toNat : Int)) && decide ((s[k].toNat : Int) ≤ 90)) = true by simp; omega] at hin65
          go_wp2_with (first | (go_at_call_of 26 (Value.int .i64 97); refine (hin97 _).mono ?_; rintro e w2 ⟨rfl, rfl⟩) | (go_at_call_of 26 (Value.int .i64 65); refine (hin65 _).mono ?_; rintro e w2 ⟨rfl, rfl⟩) | (go_at_call_of 26 (Value.int .i64 48); refine (hin48 _).mono ?_; rintro e w2 ⟨rfl, rfl⟩) | (go_at_call 10; refine (hib _).mono ?_; rintro e w2 ⟨rfl, rfl⟩))
          go_round
          case rel => exact ⟨k + 1, by omega, by go_num, hnext⟩
          case measure => simp [intOf]; omega
        · by_cases h3 : 48 ≤ s[k].toNat ∧ s[k].toNat ≤ 57
          · clear hib
            have hnext : Hid ((s.data.toList.take (k + 1)).all sendB = true) := Lib.hid (by
              rw [List.take_succ_eq_append_getElem hl, List.all_append, ha.out, at_list s k hlt hl]; simp [sendB, h3.1, h3.2])
            have hin97 := fun w' => within_any (s[k].toNat : Int) 97 122 w'
            rw [show (decide ((97 : Int) ≤ (s[k].toNat : Int)) && decide ((s[k].toNat : Int) ≤ 122)) = false by simp; omega] at hin97
            have hin65 := fun w' => within_any (s[k].toNat : Int) 65 90 w'
            rw [show (decide ((65 : Int) ≤ (s[k].toNat : Int)) && decide ((s[k].toNat : Int) ≤ 90)) = false by simp; omega] at hin65
            have hin48 := fun w' => within_any (s[k].toNat : Int) 48 57 w'
            rw [show (decide ((48 : Int) ≤ (s[k].toNat : Int)) && decide ((s[k].toNat : Int) ≤ 57)) = true by simp; omega] at hin48
            go_wp2_with (first | (go_at_call_of 26 (Value.int .i64 97); refine (hin97 _).mono ?_; rintro e w2 ⟨rfl, rfl⟩) | (go_at_call_of 26 (Value.int .i64 65); refine (hin65 _).mono ?_; rintro e w2 ⟨rfl, rfl⟩) | (go_at_call_of 26 (Value.int .i64 48); refine (hin48 _).mono ?_; rintro e w2 ⟨rfl, rfl⟩) | (go_at_call 10; refine (hib _).mono ?_; rintro e w2 ⟨rfl, rfl⟩))
            go_round
            case rel => exact ⟨k + 1, by omega, by go_num, hnext⟩
            case measure => simp [intOf]; omega
          · cases h4 : sendSet.contains s[k]
            · have hbad : Hid (s.data.toList.all sendB = false) := Lib.hid (by
                rw [List.all_eq_false]
                refine ⟨s[k], by rw [← at_list s k hlt hl]; exact List.getElem_mem _, ?_⟩
                unfold sendB
                rw [h4, decide_eq_false h1, decide_eq_false h2, decide_eq_false h3]
                decide)
              rw [idx_no _ _ h4] at hib
              have hin97 := fun w' => within_any (s[k].toNat : Int) 97 122 w'
              rw [show (decide ((97 : Int) ≤ (s[k].toNat : Int)) && decide ((s[k].toNat : Int) ≤ 122)) = false by simp; omega] at hin97
              have hin65 := fun w' => within_any (s[k].toNat : Int) 65 90 w'
              rw [show (decide ((65 : Int) ≤ (s[k].toNat : Int)) && decide ((s[k].toNat : Int) ≤ 90)) = false by simp; omega] at hin65
              have hin48 := fun w' => within_any (s[k].toNat : Int) 48 57 w'
              rw [show (decide ((48 : Int) ≤ (s[k].toNat : Int)) && decide ((s[k].toNat : Int) ≤ 57)) = false by simp; omega] at hin48
              unfold sendSet at hib
              clear h1 h2 h3 h4
              go_wp2_with (first | (go_at_call_of 26 (Value.int .i64 97); refine (hin97 _).mono ?_; rintro e w2 ⟨rfl, rfl⟩) | (go_at_call_of 26 (Value.int .i64 65); refine (hin65 _).mono ?_; rintro e w2 ⟨rfl, rfl⟩) | (go_at_call_of 26 (Value.int .i64 48); refine (hin48 _).mono ?_; rintro e w2 ⟨rfl, rfl⟩) | (go_at_call 10; refine (hib _).mono ?_; rintro e w2 ⟨rfl, rfl⟩))
              go_ret
              exact ⟨ret_bool (hbad.out.symm.trans hbh.out), rfl⟩
            · rw [idx_has _ _ h4] at hib
              have hnext : Hid ((s.data.toList.take (k + 1)).all sendB = true) := Lib.hid (by
                rw [List.take_succ_eq_append_getElem hl, List.all_append, ha.out, at_list s k hlt hl]
                show (true && (sendB s[k] && true)) = true
                unfold sendB
                rw [h4]; simp)
              generalize (befL s[k] sendSet).length = q at hib
              have hq : decide ((q : Int) < 0) = false := by first | (simp; done) | (simp; omega)
              have hin97 := fun w' => within_any (s[k].toNat : Int) 97 122 w'
              rw [show (decide ((97 : Int) ≤ (s[k].toNat : Int)) && decide ((s[k].toNat : Int) ≤ 122)) = false by simp; omega] at hin97
              have hin65 := fun w' => within_any (s[k].toNat : Int) 65 90 w'
              rw [show (decide ((65 : Int) ≤ (s[k].toNat : Int)) && decide ((s[k].toNat : Int) ≤ 90)) = false by simp; omega] at hin65
              have hin48 := fun w' => within_any (s[k].toNat : Int) 48 57 w'
              rw [show (decide ((48 : Int) ≤ (s[k].toNat : Int)) && decide ((s[k].toNat : Int) ≤ 57)) = false by simp; omega] at hin48
              unfold sendSet at hib
              clear h1 h2 h3 h4
              go_wp2_with (first | (go_at_call_of 26 (Value.int .i64 97); refine (hin97 _).mono ?_; rintro e w2 ⟨rfl, rfl⟩) | (go_at_call_of 26 (Value.int .i64 65); refine (hin65 _).mono ?_; rintro e w2 ⟨rfl, rfl⟩) | (go_at_call_of 26 (Value.int .i64 48); refine (hin48 _).mono ?_; rintro e w2 ⟨rfl, rfl⟩) | (go_at_call 10; refine (hib _).mono ?_; rintro e w2 ⟨rfl, rfl⟩))
              go_round
              case rel => exact ⟨k + 1, by omega, by go_num, hnext⟩
              case measure => simp [intOf]; omega
    · obtain rfl : s.size = k := by omega
      rw [show s.data.toList.take s.size = s.data.toList by rw [sz_len, List.take_length]] at ha
      go_wp2
      go_ret
      exact ⟨ret_bool (ha.out.symm.trans hbh.out), rfl⟩
theorem sendSet_lt : ∀ c ∈ sendChars, c.toNat < 128 := by decide
theorem send_ascii (j : Nat) (b : UInt8) (h : (⟨sendChars.toArray⟩ : ByteArray).data.toList[j]? = some b) : b.toNat < 128 := sendSet_lt b (List.mem_of_getElem? h)
theorem send_is (c : UInt8) : (⟨sendChars.toArray⟩ : ByteArray).data.toList.contains c = sendB c :=
  byte_allU (q := fun c => sendChars.contains c = sendB c) (by decide +kernel) c
set_option maxRecDepth 100000 in
set_option maxHeartbeats 1000000 in
theorem urlPlain (s : ByteArray) (w : World) (hs : s.size ≤ 1000000) :
    Calls Tryz.prog 19 #[.string s] w fun e w' => e = .returned (.bool (s.data.toList.all sendB)) ∧ Below w.heap.size w w' := by
  obtain ⟨b, hb⟩ : ∃ b, s.data.toList.all sendB = b := ⟨_, rfl⟩
  have hall := trimS_all s.data.toList (⟨sendChars.toArray⟩ : ByteArray).data.toList sendB send_is
  rw [hb] at hall ⊢
  have htr := stringsTrim s ⟨sendChars.toArray⟩ w (by omega) (by decide) send_ascii
  obtain ⟨X, hX⟩ : ∃ X : ByteArray, X = ⟨(Lib.trimS s.data.toList (⟨sendChars.toArray⟩ : ByteArray).data.toList).toArray⟩ := ⟨_, rfl⟩
  rw [← hX] at htr
  have hXl : X.data.toList = Lib.trimS s.data.toList (⟨sendChars.toArray⟩ : ByteArray).data.toList := by rw [hX, mk_toList]
  rw [← hXl] at hall
  clear hX hXl hb
  have hXe : X.toList.isEmpty = b := by
    rw [Lib.toList_data, Bool.eq_iff_iff, ← hall]
    cases X.data.toList <;> simp
  clear hall
  unfold sendChars at htr
  go_enter Tryz.func19, Tryz.ntmps19
  go_wp2_with fail
  refine htr.mono ?_
  rintro e w5 ⟨rfl, hB5⟩
  go_wp2
  go_ret
  exact ⟨rfl, hB5⟩
end Go.Proofs.YthmkilglidfdiaaGreatDoor
