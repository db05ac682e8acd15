/- sum.pad: what is behind a text that is summed . -/
import Derived.Test.YtdlhihfjigcimaaDoorSumT
import Derived.Test.YtdlhihfjigcimaaDoorSumA
import Derived.Test.YtdlhihfjigcimaaDoorFound
import Derived.Test.YtdlhihfjigcimaaDoorShelf
namespace Go.Proofs.YtdlhihfjigcimaaDoor
open Go.RowKit

theorem repeat_zero (c : Nat) : Lib.repeatL [0] c = List.replicate c 0 := by
  induction c with
  | zero => rfl
  | succ n ih => simp [Lib.repeatL, List.replicate_succ] at *; exact ih
set_option maxRecDepth 100000 in
theorem sumPadL (s : ByteArray) (hs : s.size ≤ 1000000) (w : World) :
    Calls Tryd.prog 172 #[.string s, .bool true] w fun e w' => e = .returned (.string ⟨(padL true s.data.toList).toArray⟩) ∧ Below w.heap.size w w' := by
  have hz : (55 - (s.size : Int) % 64 + 64) % 64 = ((zerosN s.size : Nat) : Int) := by unfold zerosN; omega
  have hz' : zerosN s.size ≤ 63 := by unfold zerosN; omega
  have hm : (s.size : Int).tmod 64 = (s.size : Int) % 64 := by rw [Int.tmod_eq_emod_of_nonneg (by omega)]
  have hrep := Tryd.strings_Repeat ⟨#[0]⟩ (zerosN s.size) w (by omega) (by rw [show (⟨#[0]⟩ : ByteArray).size = 1 from rfl]; omega)
  obtain ⟨R, hR⟩ : ∃ R : ByteArray, R = ⟨(Lib.repeatL (⟨#[0]⟩ : ByteArray).data.toList (zerosN s.size)).toArray⟩ := ⟨_, rfl⟩
  rw [← hR] at hrep
  have hRl : R.data.toList = List.replicate (zerosN s.size) 0 := by rw [hR]; exact repeat_zero _
  have hRs : R.size ≤ 63 := by rw [sz_len, hRl, List.length_replicate]; omega
  have hRh := Lib.hid hRl
  clear hR hRl
  go_enter Tryd.func172, Tryd.ntmps172
  go_wp2_with fail
  refine hrep.mono ?_
  rintro e w1 ⟨rfl, hB1⟩
  clear hz
  have hmk := make8
  go_wp2
  have hp1 := hB1.size
  have hK0 : Blk (w1.alloc (.cells (rowK (8 * s.size) 0) 5)) w1.heap.size (rowK (8 * s.size) 0) 5 := Blk.new _ _ _
  have hBa : Below w.heap.size w (w1.alloc (.cells (rowK (8 * s.size) 0) 5)) := hB1.alloc hp1 _
  go_loopw [8, 26] (fun _ i wr => ∃ k : Nat, k ≤ 8 ∧ i = .int .i64 k ∧ Blk wr w1.heap.size (rowK (8 * s.size) k) 5 ∧ Below w.heap.size w wr) (fun _ i _ => 8 - (intOf i).toNat)
  case atStart => exact ⟨0, Nat.zero_le _, rfl, hK0, hBa⟩
  case round =>
    obtain ⟨k, hk, rfl, hK, hB⟩ := hrel
    clear hK0 hBa hmk
    by_cases hlt : k < 8
    · have hc := hK.cell k (rowK_at _ _ _ hlt)
      have hf := hK.free k
      unfold vK at hc
      have hst := Lib.hid (show ((s.size : Int) * 8 / 2 ^ (8 * k) % 256) = ((eB (8 * s.size) k : Nat) : Int) by
        unfold eB
        have h : ((2 ^ (8 * k) : Nat) : Int) = (2 : Int) ^ (8 * k) := by rw [Int.natCast_pow]; rfl
        rw [← h, Nat.mul_comm 8 s.size]; first | rfl | simp)
      go_wp2
      go_roundw
      case rel => exact ⟨k + 1, by omega, by go_num, by rw [hst.out, ← rowK_set _ _ hlt]; exact hK.set k _, below_only hB (only_setCell (only_refl _ _) (.inl rfl) _) hB.size hp1⟩
      case measure => simp [intOf]; omega
    · obtain rfl : k = 8 := by omega
      have hcell : ∀ j (hj : j < (eight true (8 * s.size)).length), wr.cell? ((⟨w1.heap.size, 0, none⟩ : Addr).add j) = some (.int .u8 ((eight true (8 * s.size))[j].toNat : Int)) := by
        intro j hj
        have h8 : j < 8 := by rw [eight_length] at hj; exact hj
        have e : (⟨w1.heap.size, 0, none⟩ : Addr).add j = ⟨w1.heap.size, j, none⟩ := by unfold Addr.add; split <;> simp_all
        rw [e, hK.cell j (rowK_at _ _ _ h8), eight_at _ j hj]
        unfold vK
        rw [if_pos h8]
      have hcv := run_convert_bytes_back (P := Tryd.prog) wr 99 9 5 ⟨w1.heap.size, 0, none⟩ 8 _ Tryd.underlying99 Tryd.underlying5 Tryd.underlying9 hcell
      rw [eight_length] at hcv
      obtain ⟨Z, hZ⟩ : ∃ Z : ByteArray, Z = ⟨(eight true (8 * s.size)).toArray⟩ := ⟨_, rfl⟩
      have hZl : Z.data.toList = eight true (8 * s.size) := by rw [hZ]
      have hZs : Z.size = 8 := by rw [sz_len, hZl, eight_length]
      rw [← hZ] at hcv
      have hZh := Lib.hid hZl
      clear hZ hZl hcell hK
      go_wp2
      go_ret
      refine ⟨ret_str ?_, hB⟩
      apply ByteArray.ext
      have hl : s.data.toList.length = s.size := (sz_len s).symm
      apply Array.toList_inj.1
      simp [padL, hZh.out, hRh.out, hl]
set_option maxRecDepth 100000 in
theorem sumPadB (s : ByteArray) (hs : s.size ≤ 1000000) (w : World) :
    Calls Tryd.prog 172 #[.string s, .bool false] w fun e w' => e = .returned (.string ⟨(padL false s.data.toList).toArray⟩) ∧ Below w.heap.size w w' := by
  have hz : (55 - (s.size : Int) % 64 + 64) % 64 = ((zerosN s.size : Nat) : Int) := by unfold zerosN; omega
  have hz' : zerosN s.size ≤ 63 := by unfold zerosN; omega
  have hm : (s.size : Int).tmod 64 = (s.size : Int) % 64 := by rw [Int.tmod_eq_emod_of_nonneg (by omega)]
  have hrep := Tryd.strings_Repeat ⟨#[0]⟩ (zerosN s.size) w (by omega) (by rw [show (⟨#[0]⟩ : ByteArray).size = 1 from rfl]; omega)
  obtain ⟨R, hR⟩ : ∃ R : ByteArray, R = ⟨(Lib.repeatL (⟨#[0]⟩ : ByteArray).data.toList (zerosN s.size)).toArray⟩ := ⟨_, rfl⟩
  rw [← hR] at hrep
  have hRl : R.data.toList = List.replicate (zerosN s.size) 0 := by rw [hR]; exact repeat_zero _
  have hRs : R.size ≤ 63 := by rw [sz_len, hRl, List.length_replicate]; omega
  have hRh := Lib.hid hRl
  clear hR hRl
  go_enter Tryd.func172, Tryd.ntmps172
  go_wp2_with fail
  refine hrep.mono ?_
  rintro e w1 ⟨rfl, hB1⟩
  clear hz
  have hmk := make8
  go_wp2
  have hp1 := hB1.size
  have hK0 : Blk (w1.alloc (.cells (rowM (8 * s.size) 0) 5)) w1.heap.size (rowM (8 * s.size) 0) 5 := Blk.new _ _ _
  have hBa : Below w.heap.size w (w1.alloc (.cells (rowM (8 * s.size) 0) 5)) := hB1.alloc hp1 _
  go_loopw [8, 26] (fun _ i wr => ∃ k : Nat, k ≤ 8 ∧ i = .int .i64 k ∧ Blk wr w1.heap.size (rowM (8 * s.size) k) 5 ∧ Below w.heap.size w wr) (fun _ i _ => 8 - (intOf i).toNat)
  case atStart => exact ⟨0, Nat.zero_le _, rfl, hK0, hBa⟩
  case round =>
    obtain ⟨k, hk, rfl, hK, hB⟩ := hrel
    clear hK0 hBa hmk
    by_cases hlt : k < 8
    · have hc := hK.cell k (rowM_at _ _ _ hlt)
      have hf := hK.free k
      unfold vM at hc
      have hst := Lib.hid (show ((s.size : Int) * 8 / 2 ^ (56 - 8 * k) % 256) = ((eB (8 * s.size) (7 - k) : Nat) : Int) by
        unfold eB
        have h : ((2 ^ (56 - 8 * k) : Nat) : Int) = (2 : Int) ^ (56 - 8 * k) := by rw [Int.natCast_pow]; rfl
        rw [← h, Nat.mul_comm 8 s.size, show 8 * (7 - k) = 56 - 8 * k by omega]; first | rfl | simp)
      have hs1 : (56 - 8 * (k : Int)).toNat = 56 - 8 * k := by omega
      have hs2 : 0 ≤ 56 - 8 * (k : Int) := by omega
      go_wp2
      go_roundw
      case rel => exact ⟨k + 1, by omega, by go_num, by rw [hst.out, ← rowM_set _ _ hlt]; exact hK.set k _, below_only hB (only_setCell (only_refl _ _) (.inl rfl) _) hB.size hp1⟩
      case measure => simp [intOf]; omega
    · obtain rfl : k = 8 := by omega
      have hcell : ∀ j (hj : j < (eight false (8 * s.size)).length), wr.cell? ((⟨w1.heap.size, 0, none⟩ : Addr).add j) = some (.int .u8 ((eight false (8 * s.size))[j].toNat : Int)) := by
        intro j hj
        have h8 : j < 8 := by rw [eight_length] at hj; exact hj
        have e : (⟨w1.heap.size, 0, none⟩ : Addr).add j = ⟨w1.heap.size, j, none⟩ := by unfold Addr.add; split <;> simp_all
        rw [e, hK.cell j (rowM_at _ _ _ h8), eight_atB _ j hj]
        unfold vM
        rw [if_pos h8]
      have hcv := run_convert_bytes_back (P := Tryd.prog) wr 99 9 5 ⟨w1.heap.size, 0, none⟩ 8 _ Tryd.underlying99 Tryd.underlying5 Tryd.underlying9 hcell
      rw [eight_length] at hcv
      obtain ⟨Z, hZ⟩ : ∃ Z : ByteArray, Z = ⟨(eight false (8 * s.size)).toArray⟩ := ⟨_, rfl⟩
      have hZl : Z.data.toList = eight false (8 * s.size) := by rw [hZ]
      have hZs : Z.size = 8 := by rw [sz_len, hZl, eight_length]
      rw [← hZ] at hcv
      have hZh := Lib.hid hZl
      clear hZ hZl hcell hK
      go_wp2
      go_ret
      refine ⟨ret_str ?_, hB⟩
      apply ByteArray.ext
      have hl : s.data.toList.length = s.size := (sz_len s).symm
      apply Array.toList_inj.1
      simp [padL, hZh.out, hRh.out, hl]
end Go.Proofs.YtdlhihfjigcimaaDoor
