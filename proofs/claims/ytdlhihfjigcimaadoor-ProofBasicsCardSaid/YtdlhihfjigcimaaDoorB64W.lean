/- coding.Base64: bytes by 64 letters. -/
import Derived.Test.YtdlhihfjigcimaaDoorDigs
import Derived.Test.YtdlhihfjigcimaaDoorSumA
import Derived.Test.YtdlhihfjigcimaaDoorFoun2
namespace Go.Proofs.YtdlhihfjigcimaaDoor
open Go.RowKit
/-- a byte as a number; 0 behind the end -/
def gB (T : List UInt8) (i : Nat) : Nat := (T.getD i 0).toNat
def vTo (T : List UInt8) : Nat → Nat
  | 0 => 0
  | k + 1 => vTo T k * 256 + gB T k
theorem gB_lt (T : List UInt8) (i : Nat) : gB T i < 256 := UInt8.toNat_lt _
def quad (T : List UInt8) : List UInt8 :=
  [let6 (vTo T 3 / 262144 % 64), let6 (vTo T 3 / 4096 % 64), if 2 ≤ T.length then let6 (vTo T 3 / 64 % 64) else 61, if 3 ≤ T.length then let6 (vTo T 3 % 64) else 61]
theorem quad_len (T : List UInt8) : (quad T).length = 4 := rfl
theorem b64_step (T : List UInt8) (h : T ≠ []) : b64 T = quad T ++ b64 (T.drop (min 3 T.length)) := by
  match T, h with
  | [a], _ =>
    have e : vTo [a] 3 = a.toNat * 65536 := by simp [vTo, gB]; omega
    simp [b64, quad, e]
  | [a, b], _ =>
    have e : vTo [a, b] 3 = a.toNat * 65536 + b.toNat * 256 := by simp [vTo, gB]; omega
    simp [b64, quad, e]
  | a :: b :: c :: r, _ =>
    have e : vTo (a :: b :: c :: r) 3 = a.toNat * 65536 + b.toNat * 256 + c.toNat := by simp [vTo, gB]; omega
    simp [b64, quad, e]
theorem b64_len (l : List UInt8) : (b64 l).length ≤ 2 * l.length + 2 := by
  match l with
  | [] => simp [b64]
  | [a] => simp [b64]
  | [a, b] => simp [b64]
  | a :: b :: c :: r =>
    have := b64_len r
    simp [b64]; omega
theorem or_low (a b : Nat) (ha : a < 65536) (hb : b < 256) : bits .or .i64 ((a : Int) * 256) (b : Int) = ((a * 256 + b : Nat) : Int) := by
  have e : ((a : Int) * 256) = ((a * 256 : Nat) : Int) := by omega
  rw [e, i64_or _ _ (by omega) (by omega)]
  congr 1
  have := Nat.two_pow_add_eq_or_of_lt (i := 8) (b := b) (by omega) a
  rw [Nat.mul_comm]
  exact this.symm
theorem and_63 (a : Nat) (ha : a < 4294967296) : bits .and .i64 (a : Int) 63 = ((a % 64 : Nat) : Int) := by
  have := i64_and a 63 ha (by decide)
  rw [show ((63 : Nat) : Int) = 63 from rfl] at this
  rw [this]
  congr 1
  exact Nat.and_two_pow_sub_one_eq_mod a 6
theorem let6_at (d : Nat) (h : d < 64) : (⟨#[65, 66, 67, 68, 69, 70, 71, 72, 73, 74, 75, 76, 77, 78, 79, 80, 81, 82, 83, 84, 85, 86, 87, 88, 89, 90, 97, 98, 99, 100, 101, 102, 103, 104, 105, 106, 107, 108, 109, 110, 111, 112, 113, 114, 115, 116, 117, 118, 119, 120, 121, 122, 48, 49, 50, 51, 52, 53, 54, 55, 56, 57, 43, 47]⟩ : ByteArray)[d]'h = let6 d := by
  have : ∀ x : Fin 64, (⟨#[65, 66, 67, 68, 69, 70, 71, 72, 73, 74, 75, 76, 77, 78, 79, 80, 81, 82, 83, 84, 85, 86, 87, 88, 89, 90, 97, 98, 99, 100, 101, 102, 103, 104, 105, 106, 107, 108, 109, 110, 111, 112, 113, 114, 115, 116, 117, 118, 119, 120, 121, 122, 48, 49, 50, 51, 52, 53, 54, 55, 56, 57, 43, 47]⟩ : ByteArray)[x.val]'x.isLt = let6 x.val := by decide +kernel
  exact this ⟨d, h⟩
theorem quad_at (T : List UInt8) (k : Nat) (h : k < 4) : (quad T)[k]? = some (if k ≤ min 3 T.length then let6 (vTo T 3 / 2 ^ (18 - 6 * k) % 64) else 61) ∨ T = [] := by
  by_cases hT : T = []
  · exact .inr hT
  · have hl : 1 ≤ T.length := by cases T with
      | nil => exact absurd rfl hT
      | cons a r => simp
    left
    match k, h with
    | 0, _ => simp [quad]
    | 1, _ => simp only [quad, List.getElem?_cons_succ, List.getElem?_cons_zero]; rw [if_pos (by omega)]
    | 2, _ =>
      simp only [quad, List.getElem?_cons_succ, List.getElem?_cons_zero]
      by_cases h2 : 2 ≤ T.length
      · rw [if_pos h2, if_pos (by omega)]
      · rw [if_neg h2, if_neg (by omega)]
    | 3, _ =>
      simp only [quad, List.getElem?_cons_succ, List.getElem?_cons_zero]
      by_cases h2 : 3 ≤ T.length
      · rw [if_pos h2, if_pos (by omega)]; simp
      · rw [if_neg h2, if_neg (by omega)]
theorem vTo_lt (T : List UInt8) : ∀ k, vTo T k < 256 ^ k
  | 0 => by simp [vTo]
  | k + 1 => by
    have := vTo_lt T k
    have h2 := gB_lt T k
    rw [vTo, Nat.pow_succ]
    omega
theorem gB_at (s : ByteArray) (k : Nat) (h : k < s.size) : gB s.data.toList k = s[k].toNat := by
  unfold gB
  rw [List.getD_eq_getElem?_getD, List.getElem?_eq_getElem (by rw [← sz_len]; exact h), at_list s k h (by rw [← sz_len]; exact h)]
  rfl
theorem gB_end (s : ByteArray) (k : Nat) (h : s.size ≤ k) : gB s.data.toList k = 0 := by
  unfold gB
  rw [List.getD_eq_getElem?_getD, List.getElem?_eq_none (by rw [← sz_len]; exact h)]
  rfl
set_option maxRecDepth 100000 in
set_option maxHeartbeats 1000000 in
theorem codingBase64 (s : ByteArray) (w : World) (hs : s.size ≤ 1000000) :
    Calls Tryd.prog 54 #[.string s] w fun e w' => e = .returned (.string ⟨(b64 s.data.toList).toArray⟩) ∧ Below w.heap.size w w' := by
  have hnew := IsB.new w w.heap.size (Nat.le_refl _)
  have hB0 := (Below.refl w.heap.size w).alloc (Nat.le_refl _) (.cells #[.pointer none, .slice none 0 0] 101)
  go_enter Tryd.func54, Tryd.ntmps54
  go_wp2
  go_loopg [0] s.size (fun g x wr => ∃ (T : ByteArray) (l : List UInt8), x = .string T ∧ T.size ≤ g ∧ T.size ≤ 1000000 ∧ IsB w.heap.size w.heap.size (Lib.byteCells l) wr ∧ Hid (b64 s.data.toList = l ++ b64 T.data.toList) ∧ Below w.heap.size w wr)
  case atStart => exact ⟨s, [], rfl, Nat.le_refl _, hs, hnew, Lib.hid rfl, hB0⟩
  case round =>
    obtain ⟨T, l, rfl, hT, hTs, hI, hinv, hB⟩ := hrel
    clear hnew hB0
    have hll : l.length ≤ 2000002 := by
      have h1 := b64_len s.data.toList
      rw [hinv.out, List.length_append, ← sz_len] at h1
      omega
    by_cases h0 : T.size = 0
    · have hTl : T.data.toList = [] := List.length_eq_zero_iff.1 (by rw [← sz_len]; exact h0)
      have hfin : b64 s.data.toList = l := by rw [hinv.out, hTl]; simp [b64]
      have hfin' := Lib.hid hfin
      clear hTl hfin hinv
      go_wp2_with fail
      refine (Tryd.Builder_String_any _ _ _ _ hI hB.size).mono ?_
      rintro e w1 ⟨rfl, hB1⟩
      have hB2 := hB.trans hB1
      go_wp2
      go_ret
      exact ⟨by rw [hfin'.out]; rfl, hB2⟩
    · have h0' : 0 < T.size := by omega
      have hne : T.data.toList ≠ [] := by intro e; rw [sz_len, e] at h0; exact h0 rfl
      have hstep := Lib.hid (b64_step T.data.toList hne)
      obtain ⟨n, hn, hn1, hn3, hnT⟩ : ∃ n : Nat, n = min 3 T.size ∧ 1 ≤ n ∧ n ≤ 3 ∧ n ≤ T.size := ⟨min 3 T.size, rfl, by omega, by omega, by omega⟩
      have hmin : min (3 : Int) (T.size : Int) = (n : Int) := by omega
      have hn' := Lib.hid hn
      clear h0 hne hn
      go_wp2
      obtain ⟨w1, rfl⟩ : ∃ w1 : World, w1 = wr := ⟨_, rfl⟩
      go_loopw [5, 14] (fun v i wq => ∃ (k : Nat) (a : Int), k ≤ 3 ∧ i = .int .i64 k ∧ v = .int .i64 a ∧ 0 ≤ a ∧ a < 16777216 ∧ Hid (a = (vTo T.data.toList k : Int)) ∧ w1 = wq) (fun _ i _ => 3 - (intOf i).toNat)
      case atStart => exact ⟨0, 0, by decide, rfl, rfl, Int.le_refl _, by decide, Lib.hid rfl, rfl⟩
      case round =>
        obtain ⟨k, a, hk, rfl, rfl, ha0, ha24, ha, rfl⟩ := hrel
        by_cases hk3 : k < 3
        · have hv1 := vTo_lt T.data.toList k
          have hv2 := vTo_lt T.data.toList (k + 1)
          have hp1 : 256 ^ k ≤ 65536 := by
            match k, hk3 with
            | 0, _ => decide
            | 1, _ => decide
            | 2, _ => decide
          have hab : a < 65536 := by have := ha.out; omega
          have hnext : (vTo T.data.toList (k + 1)) < 16777216 := by
            rw [Nat.pow_succ] at hv2; omega
          by_cases hkT : k < T.size
          · have hkn : k < n := by have := hn'.out; omega
            have hbd := bd8 T[k]
            obtain ⟨a', ha'⟩ : ∃ a' : Int, a' = ((vTo T.data.toList (k + 1) : Nat) : Int) := ⟨_, rfl⟩
            have hor : bits .or .i64 (a * 256) (T[k].toNat : Int) = a' := by
              rw [ha.out, or_low _ _ (by omega) (by omega), ha', vTo, gB_at T k hkT]
            have ha0' : 0 ≤ a' := by omega
            have ha1' : a' < 16777216 := by omega
            have ha2' := Lib.hid ha'
            clear hv1 hv2 hp1 hnext ha'
            go_wp2
            go_roundw
            case rel => exact ⟨k + 1, a', by omega, by go_num, rfl, ha0', ha1', ha2', by trivial⟩
            case measure => simp [intOf]; omega
          · have hkn : ¬k < n := by omega
            have ha2' : Hid (a * 256 = ((vTo T.data.toList (k + 1) : Nat) : Int)) := Lib.hid (by rw [vTo, gB_end T k (by omega), ha.out]; omega)
            clear hv1 hv2 hp1 hnext
            go_wp2
            go_roundw
            case rel => exact ⟨k + 1, a * 256, by omega, by go_num, by go_num, by omega, by omega, ha2', by trivial⟩
            case measure => simp [intOf]; omega
        · have hV : Hid (a = (vTo T.data.toList 3 : Int)) := Lib.hid (by rw [ha.out, show k = 3 by omega])
          clear ha
          obtain ⟨k3, hk3'⟩ : ∃ k3, k3 = k := ⟨_, rfl⟩
          rw [← hk3'] at hk hk3
          rw [← hk3']
          clear hk3'
          go_wp2
          go_loopw [29] (fun i wq => ∃ (k : Nat), k ≤ 4 ∧ i = .int .i64 k ∧ IsB w.heap.size w.heap.size (Lib.byteCells (l ++ (quad T.data.toList).take k)) wq ∧ Below w.heap.size w wq) (fun i _ => 4 - (intOf i).toNat)
          case atStart => exact ⟨0, by decide, rfl, by simpa using hI, hB⟩
          case round =>
            obtain ⟨k, hk, rfl, hI2, hB2⟩ := hrel
            clear hI hB
            have hs2 := hB2.size
            have hqn : min 3 T.data.toList.length = n := by rw [hn'.out, ← sz_len]
            have hlq : (Lib.byteCells (l ++ (quad T.data.toList).take k)).length + 1 ≤ 140737488355328 := by rw [byteCells_len, List.length_append]; simp; omega
            have hnx : ∀ c, (quad T.data.toList)[k]? = some c → Hid (l ++ (quad T.data.toList).take (k + 1) = (l ++ (quad T.data.toList).take k) ++ [c]) := fun c hc => Lib.hid (by
              obtain ⟨h1, h2⟩ := List.getElem?_eq_some_iff.1 hc
              rw [List.take_succ_eq_append_getElem h1, h2, List.append_assoc])
            have hq : k < 4 → (quad T.data.toList)[k]? = some (if k ≤ n then let6 (vTo T.data.toList 3 / 2 ^ (18 - 6 * k) % 64) else 61) := fun h => by
              rcases quad_at T.data.toList k h with h' | h'
              · rw [hqn] at h'; exact h'
              · exfalso; rw [sz_len, h'] at h0'; exact absurd h0' (by decide)
            clear hqn
            by_cases hk4 : k < 4
            · have hq' := hq hk4
              clear hq
              have hV0 : vTo T.data.toList 3 < 16777216 := vTo_lt T.data.toList 3
              obtain ⟨d, hd, hd64⟩ : ∃ d : Nat, Hid (d = vTo T.data.toList 3 / 2 ^ (18 - 6 * k) % 64) ∧ d < 64 := ⟨_, Lib.hid rfl, Nat.mod_lt _ (by decide)⟩
              have hand : ∀ z : Int, z = ((vTo T.data.toList 3 / 2 ^ (18 - 6 * k) : Nat) : Int) → bits .and .i64 z 63 = (d : Int) := fun z hz => by
                rw [hz, and_63 _ (Nat.lt_of_le_of_lt (Nat.div_le_self _ _) (by omega)), hd.out]
              by_cases hkn : k ≤ n
              · rw [if_pos hkn] at hq'
                have hn2 := hnx _ hq'
                have hlet := let6_at d hd64
                clear hnx hq'
                rcases (show k = 0 ∨ k = 1 ∨ k = 2 ∨ k = 3 by omega) with rfl | rfl | rfl | rfl
                · have ha1 := hand (a / 262144) (by rw [hV.out]; rfl)
                  clear hand hV0
                  go_wp2_with fail
                  refine (writeByte _ _ _ _ _ hI2 hlq hs2).mono ?_
                  rintro e w3 ⟨rfl, hA3, hB3⟩
                  have hB4 := hB2.trans hB3
                  go_wp2
                  go_roundw
                  case rel =>
                    refine ⟨0 + 1, by omega, by go_num, .inr ?_, hB4⟩
                    rw [hn2.out, byteCells_snoc, ← hd.out]
                    exact hA3
                  case measure => simp [intOf]
                · have ha1 := hand (a / 4096) (by rw [hV.out]; rfl)
                  clear hand hV0
                  go_wp2_with fail
                  refine (writeByte _ _ _ _ _ hI2 hlq hs2).mono ?_
                  rintro e w3 ⟨rfl, hA3, hB3⟩
                  have hB4 := hB2.trans hB3
                  go_wp2
                  go_roundw
                  case rel =>
                    refine ⟨1 + 1, by omega, by go_num, .inr ?_, hB4⟩
                    rw [hn2.out, byteCells_snoc, ← hd.out]
                    exact hA3
                  case measure => simp [intOf]
                · have ha1 := hand (a / 64) (by rw [hV.out]; rfl)
                  clear hand hV0
                  go_wp2_with fail
                  refine (writeByte _ _ _ _ _ hI2 hlq hs2).mono ?_
                  rintro e w3 ⟨rfl, hA3, hB3⟩
                  have hB4 := hB2.trans hB3
                  go_wp2
                  go_roundw
                  case rel =>
                    refine ⟨2 + 1, by omega, by go_num, .inr ?_, hB4⟩
                    rw [hn2.out, byteCells_snoc, ← hd.out]
                    exact hA3
                  case measure => simp [intOf]
                · have ha1 := hand (a) (by rw [hV.out]; simp)
                  clear hand hV0
                  go_wp2_with fail
                  refine (writeByte _ _ _ _ _ hI2 hlq hs2).mono ?_
                  rintro e w3 ⟨rfl, hA3, hB3⟩
                  have hB4 := hB2.trans hB3
                  go_wp2
                  go_roundw
                  case rel =>
                    refine ⟨3 + 1, by omega, by go_num, .inr ?_, hB4⟩
                    rw [hn2.out, byteCells_snoc, ← hd.out]
                    exact hA3
                  case measure => simp [intOf]
              · rw [if_neg hkn] at hq'
                have hn2 := hnx _ hq'
                clear hnx hq' hand hV0
                go_wp2_with fail
                refine (writeByte _ _ _ _ _ hI2 hlq hs2).mono ?_
                rintro e w3 ⟨rfl, hA3, hB3⟩
                have hB4 := hB2.trans hB3
                go_wp2
                go_roundw
                case rel =>
                  refine ⟨k + 1, by omega, by go_num, .inr ?_, hB4⟩
                  rw [hn2.out, byteCells_snoc]
                  exact hA3
                case measure => simp [intOf]; omega
            · obtain rfl : k = 4 := by omega
              go_wp2
              go_roundg (T.size - n)
              case rel =>
                refine ⟨T.extract n T.size, l ++ quad T.data.toList, rfl, ?_, ?_, ?_, Lib.hid ?_, hB2⟩
                · rw [sz_len, Lib.extract_to_end, List.length_drop, ← sz_len]; exact Nat.le_refl _
                · rw [sz_len, Lib.extract_to_end, List.length_drop, ← sz_len]; omega
                · rw [List.take_of_length_le (by rw [quad_len]; exact Nat.le_refl _)] at hI2; exact hI2
                · rw [hinv.out, hstep.out, Lib.extract_to_end, List.append_assoc, hn'.out, ← sz_len]
              case measure => omega
end Go.Proofs.YtdlhihfjigcimaaDoor
