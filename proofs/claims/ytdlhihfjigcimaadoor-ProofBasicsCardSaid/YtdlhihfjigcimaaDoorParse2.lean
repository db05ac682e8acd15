/- strconv.ParseInt at base 2: bits as a number. -/
import Derived.Test.YtdlhihfjigcimaaDoorDigs
import Derived.Test.YtdlhihfjigcimaaDoorFound
import Derived.Test.YtdlhihfjigcimaaDoorFoun2
namespace Go.Proofs.YtdlhihfjigcimaaDoor
open Go.RowKit
def isBit (c : UInt8) : Bool := c == 48 || c == 49
theorem val_snoc (l : List UInt8) (c : UInt8) : val (l ++ [c]) = val l * 2 + (c.toNat - 48) := by unfold val; rw [List.foldl_append]; rfl
theorem val_take (l : List UInt8) (k : Nat) (h : k < l.length) : val (l.take (k + 1)) = val (l.take k) * 2 + (l[k].toNat - 48) := by
  rw [List.take_succ_eq_append_getElem h, val_snoc]
theorem bit_le {c : UInt8} (h : isBit c = true) : 48 ≤ c.toNat ∧ c.toNat ≤ 49 := by
  unfold isBit at h
  simp only [Bool.or_eq_true, beq_iff_eq] at h
  rcases h with rfl | rfl <;> decide
theorem val_lt (l : List UInt8) (h : l.all isBit = true) : ∀ k, k ≤ l.length → val (l.take k) < 2 ^ k
  | 0, _ => by simp [val]
  | k + 1, hk => by
    have ih := val_lt l h k (by omega)
    have hb := bit_le (List.all_eq_true.1 h l[k] (List.getElem_mem (by omega)))
    rw [val_take l k (by omega), Nat.pow_succ]
    omega
set_option maxRecDepth 100000 in
set_option maxHeartbeats 4000000 in
theorem parseUint2 (t : ByteArray) (w : World) (h0 : 0 < t.size) (hmax : t.size ≤ 60) (hb : t.data.toList.all isBit = true) :
    Calls Tryd.prog 125 #[.string t, .int .i64 2, .int .i64 64] w fun e w' => e = .returned (.tuple #[.int .u64 ((val t.data.toList : Nat) : Int), .nilIface]) ∧ Below w.heap.size w w' := by
  have hemp : t.toList.isEmpty = false := by
    rw [Lib.toList_data]
    cases h : t.data.toList with
    | nil => rw [sz_len, h] at h0; exact absurd h0 (by decide)
    | cons a r => rfl
  have hcv := fun w => run_bytes_of_string (P := Tryd.prog) w 9 99 5 t Tryd.underlying9 Tryd.underlying99 Tryd.underlying5
  have hmv : IntKind.u64.wrap (IntKind.u64.wrap 18446744073709551616 - 1) = 18446744073709551615 := by
    rw [IntKind.wrap_u64, IntKind.wrap_u64]
    decide
  go_enter Tryd.func125, Tryd.ntmps125
  go_wp2
  have hb0 := BytesAt.made w t (grownCap w t.size 0 5) ((bytesRow t (grownCap w t.size 0 5)).size) ((bytesRow t (grownCap w t.size 0 5)).size + 1) (bytesRow_size t _)
  go_loopw [12, 13, 101] (fun vu vn vi wr => ∃ (k : Nat) (a : Int), vu = .bool false ∧ k ≤ t.size ∧ vi = .int .i64 k ∧ vn = .int .u64 a ∧ 0 ≤ a ∧ a < 1152921504606846976 ∧ Hid (a = ((val (t.data.toList.take k) : Nat) : Int)) ∧ Below w.heap.size w wr ∧ BytesAt wr w.heap.size t.data.toList) (fun _ _ i _ => t.size - (intOf i).toNat)
  case atStart => exact ⟨0, 0, rfl, Nat.zero_le _, rfl, rfl, Int.le_refl _, by decide, Lib.hid (by simp [val]), ((Below.refl _ _).alloc (Nat.le_refl _) _).drew, hb0⟩
  case round =>
    obtain ⟨k, a, rfl, hk, rfl, rfl, ha0, ha1, ha, hB, hby⟩ := hrel
    clear hcv hb0
    by_cases hlt : k < t.size
    · have hl : k < t.data.toList.length := by rw [← sz_len]; exact hlt
      have hcell := hby.cell k hl
      have hbit := bit_le (List.all_eq_true.1 hb t.data.toList[k] (List.getElem_mem hl))
      have hnext := val_take t.data.toList k hl
      have hvl := val_lt t.data.toList hb (k + 1) hl
      have hpow : 2 ^ (k + 1) ≤ 2 ^ 60 := Nat.pow_le_pow_right (by decide) (by omega)
      have H := Lib.hid hby
      generalize t.data.toList[k] = c at hcell hbit hnext
      have hn1 : a * 2 + ((c.toNat : Int) - 48) < 1152921504606846976 := by
        have := ha.out
        rw [show (2 : Nat) ^ 60 = 1152921504606846976 from rfl] at hpow
        omega
      have ha' : Hid (a * 2 + ((c.toNat : Int) - 48) = ((val (t.data.toList.take (k + 1)) : Nat) : Int)) := Lib.hid (by
        have := ha.out
        omega)
      have hc1 : (48 : Int) ≤ (c.toNat : Int) := by omega
      have hc2 : (c.toNat : Int) ≤ 49 := by omega
      clear hby hvl hpow hnext hbit
      go_wp2
      go_roundw
      case rel => exact ⟨k + 1, a * 2 + ((c.toNat : Int) - 48), rfl, by omega, by go_num, by first | rfl | (congr 1; omega), by omega, hn1, ha', hB, H.out⟩
      case measure => simp [intOf]; omega
    · obtain rfl : t.size = k := by omega
      have hfin : Hid (a = ((val t.data.toList : Nat) : Int)) := Lib.hid (by rw [ha.out, sz_len, List.take_length])
      clear hby
      go_wp2
      go_ret2
      exact ⟨by rw [← hfin.out]; rfl, hB⟩
set_option maxRecDepth 100000 in
set_option maxHeartbeats 4000000 in
theorem parseInt2i (t : ByteArray) (w : World) (h0 : 0 < t.size) (hmax : t.size ≤ 60) (hb : t.data.toList.all isBit = true) :
    Calls Tryd.prog 96 #[.string t, .int .i64 2, .int .i64 64] w fun e w' => e = .returned (.tuple #[.int .i64 ((val t.data.toList : Nat) : Int), .nilIface]) ∧ Below w.heap.size w w' := by
  have hemp : t.toList.isEmpty = false := by
    rw [Lib.toList_data]
    cases h : t.data.toList with
    | nil => rw [sz_len, h] at h0; exact absurd h0 (by decide)
    | cons a r => rfl
  have hl : 0 < t.data.toList.length := by rw [← sz_len]; exact h0
  have hbit := bit_le (List.all_eq_true.1 hb t.data.toList[0] (List.getElem_mem hl))
  rw [at_list t 0 h0 hl] at hbit
  have hc1 : (48 : Int) ≤ (t[0].toNat : Int) := by omega
  have hc2 : (t[0].toNat : Int) ≤ 49 := by omega
  have hU := fun w => parseUint2 t w h0 hmax hb
  have hvl := val_lt t.data.toList hb t.data.toList.length (Nat.le_refl _)
  rw [List.take_length, ← sz_len] at hvl
  have hpow : 2 ^ t.size ≤ 2 ^ 60 := Nat.pow_le_pow_right (by decide) hmax
  obtain ⟨a, ha⟩ : ∃ a : Int, a = ((val t.data.toList : Nat) : Int) := ⟨_, rfl⟩
  have ha0 : 0 ≤ a := by omega
  have ha1 : a < 1152921504606846976 := by rw [show (2 : Nat) ^ 60 = 1152921504606846976 from rfl] at hpow; omega
  rw [← ha] at hU ⊢
  clear hvl hpow ha hb hbit
  go_enter Tryd.func96, Tryd.ntmps96
  go_wp2_with fail
  refine (hU _).mono ?_
  rintro e w1 ⟨rfl, hB1⟩
  go_wp2
  go_ret2
  exact ⟨rfl, hB1⟩
set_option maxRecDepth 100000 in
theorem parseInt2 (t : ByteArray) (w : World) (h0 : 0 < t.size) (hmax : t.size ≤ 60) (hb : t.data.toList.all isBit = true) :
    Calls Tryd.prog 48 #[.string t, .int .i64 2, .int .i64 64] w fun e w' => e = .returned (.tuple #[.int .i64 ((val t.data.toList : Nat) : Int), .nilIface]) ∧ Below w.heap.size w w' := by
  go_enter Tryd.func48, Tryd.ntmps48
  go_wp2_with fail
  refine (parseInt2i t _ h0 hmax hb).mono ?_
  rintro e w1 ⟨rfl, hB1⟩
  go_wp2
  go_ret2
  exact ⟨rfl, hB1⟩
end Go.Proofs.YtdlhihfjigcimaaDoor
