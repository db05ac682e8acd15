/- token.Seconds and the reference's Seconds: a number of seconds. -/
import Derived.Test.YtnfcdccdmlodeaaGreatDoorFoun2
namespace Go.Proofs.YtnfcdccdmlodeaaGreatDoor
open Go.RowKit

def isDig (c : UInt8) : Bool := decide (48 ≤ c.toNat ∧ c.toNat ≤ 57)
def digL : List UInt8 := [48, 49, 50, 51, 52, 53, 54, 55, 56, 57]
theorem digL_dig (c : UInt8) : digL.contains c = isDig c := by
  have h : ∀ n : Fin 256, digL.contains (UInt8.ofNat n.val) = isDig (UInt8.ofNat n.val) := by decide +kernel
  simpa using h ⟨c.toNat, c.toNat_lt⟩
/-- a number of seconds, at most 2^31 -/
def secs (l : List UInt8) : Nat := l.foldl (fun n c => min (n * 10 + (c.toNat - 48)) 2147483648) 0
theorem secs_succ (l : List UInt8) (k : Nat) (h : k < l.length) : secs (l.take (k + 1)) = min (secs (l.take k) * 10 + (l[k].toNat - 48)) 2147483648 := by
  unfold secs; rw [List.take_succ_eq_append_getElem h, List.foldl_append]; rfl
theorem secs_le (l : List UInt8) (k : Nat) : secs (l.take k) ≤ 2147483648 := by
  induction k with
  | zero => simp [secs]
  | succ k ih =>
    by_cases h : k < l.length
    · rw [secs_succ l k h]; omega
    · rw [List.take_of_length_le (by omega)]; rw [List.take_of_length_le (by omega)] at ih; exact ih
def secsOk (l : List UInt8) : Bool := !l.isEmpty && l.all isDig
def secsRes (l : List UInt8) (bad good : Value) : Value := if secsOk l then .tuple #[.int .i64 (secs l), good] else .tuple #[.int .i64 0, bad]
theorem all_at {p : UInt8 → Bool} {s : ByteArray} (h : s.data.toList.all p = true) (k : Nat) (hk : k < s.size) : p s[k] = true := by
  have hl : k < s.data.toList.length := by rw [← sz_len]; exact hk
  rw [← at_list s k hk hl]
  exact List.all_eq_true.1 h _ (List.getElem_mem hl)
theorem within_dig (n lo hi : Int) (w : World) :
    Calls Tryz.prog 72 #[.int .i64 n, .int .i64 lo, .int .i64 hi] w fun e w' => e = .returned (.bool (decide (lo ≤ n) && decide (n ≤ hi))) ∧ w = w' := within_any n lo hi w

set_option maxRecDepth 100000 in
theorem refSeconds (s : ByteArray) (w : World) (hs : s.size ≤ 1099511627776) :
    Calls Tryz.prog 233 #[.string s] w fun e w' => e = .returned (secsRes s.data.toList (.int .i64 3) (.int .i64 0)) ∧ w = w' := by
  go_enter Tryz.func233, Tryz.ntmps233
  go_wp2
  go_loop [4, 8] (fun n i => ∃ (k m : Nat), k ≤ s.size ∧ i = .int .i64 k ∧ n = .int .i64 m ∧ m ≤ 2147483648 ∧ Hid (m = secs (s.data.toList.take k)) ∧ Hid ((s.data.toList.take k).all isDig = true)) (fun _ i => s.size - (intOf i).toNat)
  case atStart => exact ⟨0, 0, Nat.zero_le _, rfl, rfl, by decide, Lib.hid rfl, Lib.hid (by simp)⟩
  case round =>
    obtain ⟨k, m, hk, rfl, rfl, hm, hms, ha⟩ := hrel
    by_cases hlt : k < s.size
    · have hl : k < s.data.toList.length := by rw [← sz_len]; exact hlt
      have hc256 : (s[k].toNat : Int) < 256 := by have := s[k].toNat_lt; omega
      have hnext := Lib.hid (secs_succ s.data.toList k hl)
      rw [at_list s k hlt hl, ← hms.out] at hnext
      by_cases hd : 48 ≤ s[k].toNat ∧ s[k].toNat ≤ 57
      · obtain ⟨hd1, hd2⟩ := hd
        have had : Hid ((s.data.toList.take (k + 1)).all isDig = true) := Lib.hid (by
          rw [List.take_succ_eq_append_getElem hl, List.all_append, ha.out, at_list s k hlt hl]; simp [isDig, hd1, hd2])
        have i1 : (48 : Int) ≤ (s[k].toNat : Int) := by omega
        have i2 : (s[k].toNat : Int) ≤ 57 := by omega
        by_cases hbig : 2147483648 < m * 10 + (s[k].toNat - 48)
        · go_wp2_with (go_at_call 72; refine (within_dig _ _ _ _).mono ?_; rintro e w' ⟨rfl, rfl⟩)
          all_goals
            go_round
            case rel => exact ⟨k + 1, 2147483648, by omega, by go_num, rfl, by omega, Lib.hid (by rw [hnext.out]; omega), had⟩
            case measure => simp [intOf]; omega
        · go_wp2_with (go_at_call 72; refine (within_dig _ _ _ _).mono ?_; rintro e w' ⟨rfl, rfl⟩)
          all_goals
            go_round
            case rel => exact ⟨k + 1, m * 10 + (s[k].toNat - 48), by omega, by go_num, by congr 1; omega, by omega, Lib.hid (by rw [hnext.out]; omega), had⟩
            case measure => simp [intOf]; omega
      · have hbad : Hid (secsOk s.data.toList = false) := Lib.hid (by
          unfold secsOk
          rw [show s.data.toList.all isDig = false by
            rw [List.all_eq_false]
            exact ⟨s[k], by rw [← at_list s k hlt hl]; exact List.getElem_mem _, by simpa [isDig] using hd⟩]
          simp)
        have hw : (decide ((48 : Int) ≤ (s[k].toNat : Int)) && decide ((s[k].toNat : Int) ≤ 57)) = false := by simp; omega
        clear hd
        go_wp2_with (go_at_call 72; refine (within_dig _ _ _ _).mono ?_; rintro e w' ⟨rfl, rfl⟩)
        go_ret2
        exact ⟨by unfold secsRes; rw [hbad.out]; rfl, rfl⟩
    · obtain rfl : s.size = k := by omega
      rw [show s.data.toList.take s.size = s.data.toList by rw [sz_len, List.take_length]] at hms ha
      by_cases h0 : s.size = 0
      · have hTl : s.data.toList = [] := List.length_eq_zero_iff.1 (by rw [← sz_len]; exact h0)
        have hTe : s.toList.isEmpty = true := by rw [Lib.toList_data, hTl]; rfl
        have hTl' := Lib.hid hTl
        clear h0 hTl
        go_wp2
        go_ret2
        exact ⟨by unfold secsRes secsOk; rw [hTl'.out]; rfl, rfl⟩
      · have hne : s.data.toList.isEmpty = false := by
          cases hl : s.data.toList with
          | nil => rw [sz_len, hl] at h0; exact absurd rfl h0
          | cons a l => rfl
        have hTe : s.toList.isEmpty = false := by rw [Lib.toList_data]; exact hne
        have hne' := Lib.hid hne
        clear h0 hne
        go_wp2
        go_ret2
        exact ⟨by unfold secsRes secsOk; rw [hne'.out, ha.out, ← hms.out]; rfl, rfl⟩

theorem dig_trim (s : ByteArray) (w : World) (hs : s.size ≤ 1099511627776) :
    Calls Tryz.prog 149 #[.string s, .string ⟨#[48, 49, 50, 51, 52, 53, 54, 55, 56, 57]⟩] w fun e w' => e = .returned (.string ⟨(Lib.trimS s.data.toList digL).toArray⟩) ∧ Below w.heap.size w w' :=
  stringsTrim s _ w (by omega) (by decide) (Go.Proofs.ascii_of_all (by decide))

set_option maxRecDepth 100000 in
theorem tokenSeconds (s : ByteArray) (w : World) (hs : s.size ≤ 1099511627776) :
    Calls Tryz.prog 262 #[.string s] w fun e w' => e = .returned (secsRes s.data.toList (.iface 130 (.int .i64 3)) .nilIface) ∧ Below w.heap.size w w' := by
  by_cases h0 : s.size = 0
  · have hTl : s.data.toList = [] := List.length_eq_zero_iff.1 (by rw [← sz_len]; exact h0)
    have hTe : s.toList.isEmpty = true := by rw [Lib.toList_data, hTl]; rfl
    have hTl' := Lib.hid hTl
    clear h0 hTl
    go_enter Tryz.func262, Tryz.ntmps262
    go_wp2
    go_ret2
    exact ⟨by unfold secsRes secsOk; rw [hTl'.out]; rfl, Below.refl _ _⟩
  · have hne : s.data.toList.isEmpty = false := by
      cases hl : s.data.toList with
      | nil => rw [sz_len, hl] at h0; exact absurd rfl h0
      | cons a l => rfl
    have hTe : s.toList.isEmpty = false := by rw [Lib.toList_data]; exact hne
    have hne' := Lib.hid hne
    clear h0 hne
    have ht := dig_trim s w hs
    have hiff := trimS_all s.data.toList digL isDig digL_dig
    obtain ⟨T, hT⟩ : ∃ T : ByteArray, T = ⟨(Lib.trimS s.data.toList digL).toArray⟩ := ⟨_, rfl⟩
    rw [← hT] at ht
    have hTl : T.data.toList = Lib.trimS s.data.toList digL := by rw [hT, mk_toList]
    clear hT
    cases ha : s.data.toList.all isDig
    · have hTn : T.toList.isEmpty = false := by
        rw [Lib.toList_data, hTl]
        cases hr : Lib.trimS s.data.toList digL with
        | nil => rw [hiff.1 hr] at ha; cases ha
        | cons a l => rfl
      have ha' := Lib.hid ha
      clear ha hTl hiff
      go_enter Tryz.func262, Tryz.ntmps262
      go_wp2_with fail
      refine ht.mono ?_
      rintro e w1 ⟨rfl, hB1⟩
      go_wp2
      go_ret2
      exact ⟨by unfold secsRes secsOk; rw [ha'.out]; simp, hB1⟩
    · have hTn : T.toList.isEmpty = true := by
        rw [Lib.toList_data, hTl, hiff.2 ha]; rfl
      have ha' := Lib.hid ha
      clear ha hTl hiff
      go_enter Tryz.func262, Tryz.ntmps262
      go_wp2_with fail
      refine ht.mono ?_
      rintro e w1 ⟨rfl, hB1⟩
      go_wp2
      go_loop [4, 16] (fun n i => ∃ (k m : Nat), k ≤ s.size ∧ i = .int .i64 k ∧ n = .int .i64 m ∧ m ≤ 2147483648 ∧ Hid (m = secs (s.data.toList.take k))) (fun _ i => s.size - (intOf i).toNat)
      case atStart => exact ⟨0, 0, Nat.zero_le _, rfl, rfl, by decide, Lib.hid rfl⟩
      case round =>
        obtain ⟨k, m, hk, rfl, rfl, hm, hms⟩ := hrel
        by_cases hlt : k < s.size
        · have hl : k < s.data.toList.length := by rw [← sz_len]; exact hlt
          have hc256 : (s[k].toNat : Int) < 256 := by have := s[k].toNat_lt; omega
          have hnext := Lib.hid (secs_succ s.data.toList k hl)
          rw [at_list s k hlt hl, ← hms.out] at hnext
          have hd := all_at ha'.out k hlt
          simp only [isDig, decide_eq_true_eq] at hd
          obtain ⟨hd1, hd2⟩ := hd
          have i1 : (48 : Int) ≤ (s[k].toNat : Int) := by omega
          have i2 : (s[k].toNat : Int) ≤ 57 := by omega
          go_wp2
          go_round
          case rel => exact ⟨k + 1, min (m * 10 + (s[k].toNat - 48)) 2147483648, by omega, by go_num, by congr 1; omega, by omega, Lib.hid (by rw [hnext.out])⟩
          case measure => simp [intOf]; omega
        · obtain rfl : s.size = k := by omega
          rw [show s.data.toList.take s.size = s.data.toList by rw [sz_len, List.take_length]] at hms
          go_wp2
          go_ret2
          exact ⟨by unfold secsRes secsOk; rw [hne'.out, ha'.out, ← hms.out]; rfl, hB1⟩
end Go.Proofs.YtnfcdccdmlodeaaGreatDoor
