/- coding.Lower and the reference's Lower: each returns the text with small letters for great ones. -/
import Derived.Test.YtfkflgcifddnnaaDoorBase
namespace Go.Proofs.YtfkflgcifddnnaaDoor
open Go.RowKit

def low (c : UInt8) : UInt8 := if 65 ≤ c.toNat ∧ c.toNat ≤ 90 then c + 32 else c
def lower (l : List UInt8) : List UInt8 := l.map low
theorem lower_length (l : List UInt8) : (lower l).length = l.length := by simp [lower]
theorem size_data (s : ByteArray) : s.size = s.data.toList.length := Lib.size_eq s

/-- Block g holds the bytes of l from its head on; no cell of these is frozen. -/
def BytesAt (w : World) (g : Nat) (l : List UInt8) : Prop :=
  ∃ cur fr, w.heap[g]? = some (.cells cur 5 fr) ∧ l.length ≤ fr.1 ∧ ∀ i (h : i < l.length), cur[i]? = some (.int .u8 (l[i].toNat : Int))

theorem BytesAt.cell {w : World} {g : Nat} {l : List UInt8} (h : BytesAt w g l) (i : Nat) (hi : i < l.length) : w.cell? ⟨g, i, none⟩ = some (.int .u8 (l[i].toNat : Int)) := by
  obtain ⟨cur, fr, hg, _, hc⟩ := h
  rw [cell_of_row w g i cur _ fr hg]; exact hc i hi

theorem BytesAt.free {w : World} {g : Nat} {l : List UInt8} (h : BytesAt w g l) (i : Nat) (hi : i < l.length) : w.frozen? ⟨g, i, none⟩ = false := by
  obtain ⟨cur, fr, hg, hf, hc⟩ := h
  simp [World.frozen?, hg]; omega

theorem BytesAt.set {w : World} {g : Nat} {l : List UInt8} (h : BytesAt w g l) (i : Nat) (c : UInt8) : BytesAt (w.setCell ⟨g, i, none⟩ (.int .u8 (c.toNat : Int))) g (l.set i c) := by
  obtain ⟨cur, fr, hg, hf, hc⟩ := h
  refine ⟨cur.setIfInBounds i (.int .u8 (c.toNat : Int)), fr, ?_, by simpa using hf, ?_⟩
  · show (w.heap.modify g _)[g]? = _
    rw [Array.getElem?_modify, if_pos rfl, hg]
    rfl
  · intro j hj
    simp at hj
    have := hc j hj
    rw [Array.getElem?_setIfInBounds, List.getElem_set]
    split
    · subst_vars; split <;> simp_all
    · exact this

theorem BytesAt.made (w : World) (s : ByteArray) (cap : Nat) (n m : Nat) (hn : s.size ≤ n) :
    BytesAt (w.alloc (.cells (bytesRow s cap) 5 (n, m))).drew w.heap.size s.data.toList := by
  refine ⟨_, _, heap_alloc_new w _, by rw [← size_data]; exact hn, ?_⟩
  intro i hi
  rw [bytesRow_at s cap i (by simpa using hi)]
  simp

theorem bytesRow_size (s : ByteArray) (cap : Nat) : s.size ≤ (bytesRow s cap).size := by
  rw [size_data]; simp [bytesRow]

/-- so many bytes lowered -/
def lowTo (l : List UInt8) (k : Nat) : List UInt8 := lower (l.take k) ++ l.drop k
theorem lowTo_length (l : List UInt8) (k : Nat) : (lowTo l k).length = l.length := by simp [lowTo, lower]; omega
theorem lowTo_zero (l : List UInt8) : lowTo l 0 = l := by simp [lowTo, lower]
theorem lowTo_all (l : List UInt8) : lowTo l l.length = lower l := by simp [lowTo]
theorem lowTo_at (l : List UInt8) (k : Nat) (h : k < l.length) : (lowTo l k)[k]'(by rw [lowTo_length]; exact h) = l[k] := by
  simp only [lowTo]
  rw [List.getElem_append_right (by simp [lower]; omega)]
  simp [lower, Nat.min_eq_left (Nat.le_of_lt h)]
theorem lowTo_succ (l : List UInt8) (k : Nat) (h : k < l.length) : lowTo l (k + 1) = (lowTo l k).set k (low l[k]) := by
  apply List.ext_getElem
  · simp [lowTo_length]
  · intro i h1 h2
    simp only [lowTo]
    rw [List.getElem_set]
    simp [lowTo_length] at h1 h2
    by_cases e : k = i
    · subst e
      rw [if_pos rfl, List.getElem_append_left (by simp [lower]; omega)]
      simp [lower]
    · rw [if_neg e]
      by_cases hi : i < k
      · rw [List.getElem_append_left (by simp [lower]; omega), List.getElem_append_left (by simp [lower]; omega)]
        simp [lower]
      · rw [List.getElem_append_right (by simp [lower]; omega), List.getElem_append_right (by simp [lower]; omega)]
        simp [lower, Nat.min_eq_left (Nat.le_of_lt h), Nat.min_eq_left (show k + 1 ≤ l.length from h)]
        congr 1
        omega

set_option maxHeartbeats 400000 in
theorem codingLower (s : ByteArray) (w : World) (hs : s.size ≤ maxLen) :
    Calls Tryd.prog 167 #[.string s] w fun e w' => e = .returned (.string ⟨(lower s.data.toList).toArray⟩) ∧ Below w.heap.size w w' := by
  unfold maxLen at hs
  have hcv := fun w => run_bytes_of_string (P := Tryd.prog) w 9 134 5 s Tryd.underlying9 Tryd.underlying134 Tryd.underlying5
  go_enter Tryd.func167, Tryd.ntmps167
  go_wp2
  have hb0 := BytesAt.made w s (grownCap w s.size 0 5) ((bytesRow s (grownCap w s.size 0 5)).size) ((bytesRow s (grownCap w s.size 0 5)).size + 1) (bytesRow_size s _)
  go_loopw [10] (fun i wr => ∃ k : Nat, k ≤ s.size ∧ i = .int .i64 k ∧ Below w.heap.size w wr ∧ BytesAt wr w.heap.size (lowTo s.data.toList k)) (fun i _ => s.size - (intOf i).toNat)
  case atStart => exact ⟨0, Nat.zero_le _, rfl, ((Below.refl _ _).alloc (Nat.le_refl _) _).drew, by rw [lowTo_zero]; exact hb0⟩
  case round =>
    obtain ⟨k, hk, rfl, hB, hb⟩ := hrel
    clear hcv hb0
    by_cases hlt : k < s.size
    · have hl : k < s.data.toList.length := by rw [← size_data]; exact hlt
      have hl' : k < (lowTo s.data.toList k).length := by rw [lowTo_length]; exact hl
      have hcell := hb.cell k hl'
      have hfree := hb.free k hl'
      have hset := hb.set k
      rw [lowTo_at _ _ hl] at hcell
      have H := Lib.hid hb; clear hb
      have hsucc := Lib.hid (lowTo_succ s.data.toList k hl)
      have hset1 := hset (low s.data.toList[k])
      clear hset
      have hset2 := Lib.hid hset1; clear hset1
      have hl2 : s.data.toList[k] = s.data[k] := by simp
      have hl3 := Lib.hid hl2; clear hl2
      go_wp2
      · go_roundw
        case rel =>
          refine ⟨k + 1, by omega, by go_num, hB.setCell (Nat.le_refl _) _, ?_⟩
          rw [hsucc.out]
          have e : (s.data[k].toNat : Int) + 32 = ((low s.data.toList[k]).toNat : Int) := by
            rw [hl3.out]; unfold low; rw [if_pos (by omega)]
            simp [UInt8.toNat_add]; omega
          rw [e]; exact hset2.out
        case measure => simp [intOf]; omega
      all_goals
        go_roundw
        case rel =>
          refine ⟨k + 1, by omega, by go_num, hB, ?_⟩
          have e : low s.data.toList[k] = (lowTo s.data.toList k)[k] := by
            rw [lowTo_at _ _ hl, hl3.out]; unfold low; rw [if_neg (by omega)]
          rw [hsucc.out, e, List.set_getElem_self]; exact H.out
        case measure => simp [intOf]; omega
    · obtain rfl : s.size = k := by omega
      have hb' : BytesAt wr w.heap.size (lower s.data.toList) := by rw [← lowTo_all, ← size_data]; exact hb
      have hback := fun cap => run_convert_bytes_back (P := Tryd.prog) wr 134 9 5 ⟨w.heap.size, 0, none⟩ cap (lower s.data.toList) Tryd.underlying134 Tryd.underlying5 Tryd.underlying9 (fun j hj => by
        have : (⟨w.heap.size, 0, none⟩ : Addr).add j = ⟨w.heap.size, j, none⟩ := by unfold Addr.add; split <;> simp_all
        rw [this]; exact hb'.cell j hj)
      rw [lower_length, ← size_data] at hback
      clear hb hb'
      go_wp2
      go_ret
      exact ⟨rfl, hB⟩

theorem mk_append (a b : List UInt8) : (⟨a.toArray⟩ : ByteArray) ++ ⟨b.toArray⟩ = ⟨(a ++ b).toArray⟩ := by
  rw [ByteArray.mk_append_mk]
theorem lower_take_succ (l : List UInt8) (k : Nat) (h : k < l.length) : lower (l.take (k + 1)) = lower (l.take k) ++ [low l[k]] := by
  rw [List.take_succ_eq_append_getElem h]; unfold lower; rw [List.map_append]; rfl
theorem mk_size (a : List UInt8) : (⟨a.toArray⟩ : ByteArray).size = a.length := by rw [size_data]

theorem low_hi (c : UInt8) (h : 65 ≤ (c.toNat : Int) ∧ (c.toNat : Int) ≤ 90) : chr ((c.toNat : Int) + 32) = low c := by
  unfold low chr; rw [if_pos (by omega)]
  apply UInt8.toNat.inj; simp [UInt8.toNat_add]; omega
theorem low_no (c : UInt8) (h : (c.toNat : Int) < 65 ∨ 90 < (c.toNat : Int)) : chr (c.toNat : Int) = low c := by
  unfold low chr; rw [if_neg (by omega)]
  apply UInt8.toNat.inj; have := c.toNat_lt; simp; omega

set_option maxRecDepth 100000 in
set_option maxHeartbeats 400000 in
theorem refLower (s : ByteArray) (w : World) (hs : s.size ≤ maxLen) :
    Calls Tryd.prog 92 #[.string s] w fun e w' => e = .returned (.string ⟨(lower s.data.toList).toArray⟩) ∧ Below w.heap.size w w' := by
  unfold maxLen at hs
  go_enter Tryd.func92, Tryd.ntmps92
  go_wp2
  go_loopw [3, 8] (fun o i wr => ∃ k : Nat, k ≤ s.size ∧ i = .int .i64 k ∧ Below w.heap.size w wr ∧ o = .string ⟨(lower (s.data.toList.take k)).toArray⟩) (fun _ i _ => s.size - (intOf i).toNat)
  case atStart => exact ⟨0, Nat.zero_le _, rfl, Below.refl _ _, rfl⟩
  case round =>
    obtain ⟨k, hk, rfl, hB, rfl⟩ := hrel
    by_cases hlt : k < s.size
    · have hl : k < s.data.toList.length := by rw [← size_data]; exact hlt
      have hsucc := Lib.hid (lower_take_succ s.data.toList k hl)
      have hl2 : s.data.toList[k] = s[k] := by simp; rfl
      have hl3 := Lib.hid hl2; clear hl2
      have hc256 : (s[k].toNat : Int) < 256 := by have := s[k].toNat_lt; omega
      go_wp2_with fail
      refine (within_any _ _ _ _).mono ?_
      rintro e w' ⟨rfl, rfl⟩
      go_wp2_with fail
      all_goals
        refine (char_any _ _).mono ?_
        rintro e w' ⟨rfl, hB'⟩
        have hB2 : Below w.heap.size w w' := hB.trans (hB'.mono hB.size)
        have hadd := fun x => run_string_add_sum (P := Tryd.prog) w' ⟨(lower (s.data.toList.take k)).toArray⟩ ⟨#[x]⟩ (by rw [mk_size, lower_length]; have : (⟨#[x]⟩ : ByteArray).size = 1 := rfl; rw [this]; simp; omega)
        go_wp2
        go_roundw
        case rel =>
          refine ⟨k + 1, by omega, by go_num, hB2, ?_⟩
          rw [hsucc.out, hl3.out]
          refine congrArg Value.string ?_
          refine (mk_append _ [_]).trans ?_
          first | rw [low_hi _ (by assumption)] | rw [low_no _ (by assumption)]
        case measure => simp [intOf]; omega
    · obtain rfl : s.size = k := by omega
      go_wp2
      go_ret
      exact ⟨ret_str (by rw [size_data, List.take_length]), hB⟩

end Go.Proofs.YtfkflgcifddnnaaDoor
