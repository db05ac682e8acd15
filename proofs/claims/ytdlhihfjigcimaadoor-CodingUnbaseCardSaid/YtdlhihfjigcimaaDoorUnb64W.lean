/- coding.Unbase64: base64 read in fours. -/
import Derived.Test.YtdlhihfjigcimaaDoorUnb64P
import Derived.Test.YtdlhihfjigcimaaDoorB64W
import Derived.Test.YtdlhihfjigcimaaDoorFoun2
import Derived.Test.YtdlhihfjigcimaaDoorErrs
namespace Go.Proofs.YtdlhihfjigcimaaDoor
open Go.RowKit
/-- what a text was written of, if it was written so -/
def unb (l : List UInt8) : Option (List UInt8) := if b64 (refOut l) = l then some (refOut l) else none
theorem unb_some {l x : List UInt8} (h : unb l = some x) : b64 x = l := by
  unfold unb at h
  split at h
  · cases h; assumption
  · cases h
theorem unb_of {x : List UInt8} : unb (b64 x) = some x := by unfold unb; rw [ref_back, if_pos rfl]
theorem unb_none {l : List UInt8} (h : ∀ x, b64 x ≠ l) : unb l = none := by unfold unb; rw [if_neg (h _)]
theorem unb_len {l : List UInt8} (h : l.length % 4 ≠ 0) : unb l = none := unb_none fun x e => by
  obtain ⟨g, h1, _⟩ := prog_back x
  rw [e] at h1; omega
theorem progOk_le {l : List UInt8} {m : Nat} : ∀ {g g' : Nat}, progOk l m g' = true → g ≤ g' → progOk l m g = true
  | g, 0, h, hle => by
    obtain rfl : g = 0 := by omega
    exact h
  | g, g' + 1, h, hle => by
    by_cases e : g = g' + 1
    · subst e; exact h
    · rw [progOk, Bool.and_eq_true] at h
      exact progOk_le h.1 (by omega)
theorem okAt_le {l : List UInt8} {m i : Nat} : ∀ {j j' : Nat}, okAt l m i j' = true → j ≤ j' → okAt l m i j = true
  | j, 0, h, hle => by
    obtain rfl : j = 0 := by omega
    exact h
  | j, j' + 1, h, hle => by
    by_cases e : j = j' + 1
    · subst e; exact h
    · rw [okAt, Bool.and_eq_true] at h
      exact okAt_le h.1 (by omega)
theorem unb_bad {l : List UInt8} {i g j : Nat} (hl : l.length = 4 * g) (hi : i < g) (hj : j < 4) (h1 : 4 * i + j < trimN l) (h2 : isL (l.getD (4 * i + j) 0) = false) : unb l = none := unb_none fun x e => by
  obtain ⟨g', h3, h4, _⟩ := prog_back x
  rw [e] at h3 h4
  obtain rfl : g = g' := by omega
  have := progOk_le (g := i + 1) h4 (by omega)
  rw [progOk, Bool.and_eq_true] at this
  have := okAt_le (j := j + 1) this.2 (by omega)
  rw [okAt, h2, Bool.and_eq_true, Bool.or_false, decide_eq_true_iff] at this
  omega
theorem unb_yes {l : List UInt8} {g : Nat} (h : b64 (progGo l (trimN l) g) = l) : unb l = some (progGo l (trimN l) g) := by
  have := unb_of (x := progGo l (trimN l) g)
  rwa [h] at this
theorem unb_no {l : List UInt8} {g : Nat} (hl : l.length = 4 * g) (h : b64 (progGo l (trimN l) g) ≠ l) : unb l = none := unb_none fun x e => by
  obtain ⟨g', h3, _, h5⟩ := prog_back x
  rw [e] at h3 h5
  obtain rfl : g = g' := by omega
  exact h (by rw [h5, e])
theorem or_six (a b : Nat) (ha : a < 262144) (hb : b < 64) : bits .or .i64 ((a : Int) * 64) (b : Int) = ((a * 64 + b : Nat) : Int) := by
  have e : ((a : Int) * 64) = ((a * 64 : Nat) : Int) := by omega
  rw [e, i64_or _ _ (by omega) (by omega)]
  congr 1
  have := Nat.two_pow_add_eq_or_of_lt (i := 6) (b := b) (by omega) a
  rw [Nat.mul_comm]
  exact this.symm
theorem outN_len (v n : Nat) : (outN v n).length = n - 1 := by unfold outN; simp
theorem outN_at (v n k : Nat) (h : k < (outN v n).length) : (outN v n)[k] = UInt8.ofNat (v / 2 ^ (16 - 8 * k) % 256) := by simp only [outN, List.getElem_map, List.getElem_range]
theorem progGo_len (l : List UInt8) (m : Nat) : ∀ g, (progGo l m g).length ≤ 3 * g
  | 0 => by simp [progGo]
  | g + 1 => by
    have := progGo_len l m g
    rw [progGo, List.length_append]
    unfold outAt
    rw [outN_len]
    omega
theorem trimN_le (l : List UInt8) : trimN l ≤ l.length := by
  unfold trimN Lib.trimRightS
  rw [List.length_reverse]
  exact Nat.le_trans (List.dropWhile_sublist _).length_le (by simp)
theorem trimR_take (l : List UInt8) : Lib.trimRightS l [61] = l.take (trimN l) := by
  unfold trimN Lib.trimRightS
  have h := List.dropWhile_suffix (fun x => [61].contains x) (l := l.reverse)
  obtain ⟨t, ht⟩ := h
  have h2 := congrArg List.reverse ht
  rw [List.reverse_append, List.reverse_reverse] at h2
  generalize (List.dropWhile (fun x => [61].contains x) l.reverse).reverse = Y at h2 ⊢
  rw [← h2, List.take_left]
theorem byte_back (c : UInt8) : ((c.toNat : Int).toNat).toUInt8 = c := by simp
theorem cnv8 (n : Nat) : ((UInt8.ofNat (n % 256)).toNat : Int) = (n : Int) % 256 := by simp
theorem trimR_at (s r : ByteArray) (hr : r.data.toList = Lib.trimRightS s.data.toList [61]) (k : Nat) (h : k < r.size) : r[k] = s.data.toList.getD k 0 := by
  have hl : k < r.data.toList.length := by rw [← sz_len]; exact h
  rw [← at_list r k h hl]
  have : r.data.toList[k]? = some r.data.toList[k] := List.getElem?_eq_getElem hl
  rw [List.getD_eq_getElem?_getD]
  have h2 : k < trimN s.data.toList := by unfold trimN; rw [← hr]; exact hl
  have h3 : r.data.toList[k]? = s.data.toList[k]? := by rw [hr, trimR_take, List.getElem?_take_of_lt h2]
  rw [← h3, this]; rfl
/-- what coding.Unbase64 tells -/
def unbV (l : List UInt8) : Value := match unb l with
  | some x => .tuple #[.string ⟨x.toArray⟩, .nilIface]
  | none => .tuple #[.string ⟨#[]⟩, .iface 35 (.int .i64 3)]
theorem unbV_some {l x : List UInt8} (h : unb l = some x) : unbV l = .tuple #[.string ⟨x.toArray⟩, .nilIface] := by unfold unbV; rw [h]
theorem unbV_none {l : List UInt8} (h : unb l = none) : unbV l = .tuple #[.string ⟨#[]⟩, .iface 35 (.int .i64 3)] := by unfold unbV; rw [h]
set_option maxRecDepth 100000 in
set_option maxHeartbeats 1000000 in
theorem codingUnbase64 (s : ByteArray) (w : World) (hs : s.size ≤ 10000) :
    Calls Tryd.prog 17 #[.string s] w fun e w' => e = .returned (unbV s.data.toList) ∧ Below w.heap.size w w' := by
  have hm : (s.size : Int).tmod 4 = (s.size : Int) % 4 := by rw [Int.tmod_eq_emod_of_nonneg (by omega)]
  by_cases h4 : s.size % 4 = 0
  · have hm0 : (s.size : Int).tmod 4 = 0 := by rw [hm]; omega
    clear hm
    obtain ⟨G, hG⟩ : ∃ G, s.data.toList.length = 4 * G := ⟨s.data.toList.length / 4, by rw [← sz_len]; omega⟩
    have hG' := Lib.hid hG
    have hsG := Lib.hid (show s.size = 4 * G by rw [sz_len]; exact hG)
    clear hG h4
    have hnew := IsB.new w w.heap.size (Nat.le_refl _)
    have hB0 := (Below.refl w.heap.size w).alloc (Nat.le_refl _) (.cells #[.pointer none, .slice none 0 0] 101)
    have htr := fun w' => Tryd.strings_TrimRight_one s 61 (by decide) w' (by omega)
    rw [← Lib.trimRightS_one] at htr
    obtain ⟨r, hr⟩ : ∃ r : ByteArray, r = ⟨(Lib.trimRightS s.data.toList [61]).toArray⟩ := ⟨_, rfl⟩
    rw [← hr] at htr
    have hrl : r.data.toList = Lib.trimRightS s.data.toList [61] := by rw [hr]
    have hrz : r.size = trimN s.data.toList := by rw [sz_len, hrl]; rfl
    have hrm : r.size ≤ s.size := by rw [hrz, sz_len]; exact trimN_le _
    have hrl' := Lib.hid hrl
    have hrz' := Lib.hid hrz
    clear hr hrl hrz
    go_enter Tryd.func17, Tryd.ntmps17
    go_wp2_with fail
    refine (htr _).mono ?_
    rintro e w1 ⟨rfl, hw1⟩
    rw [hw1]
    clear htr hw1
    go_wp2
    go_loopw [6] (fun i wr => ∃ i0 : Nat, i = .int .i64 i0 ∧ i0 ≤ s.size ∧ Hid (∃ g, i0 = 4 * g ∧ IsB w.heap.size w.heap.size (Lib.byteCells (progGo s.data.toList r.size g)) wr) ∧ Hid (Below w.heap.size w wr)) (fun i _ => s.size - (intOf i).toNat)
    case atStart => exact ⟨0, rfl, Nat.zero_le _, Lib.hid ⟨0, rfl, hnew⟩, Lib.hid hB0⟩
    case round =>
      obtain ⟨i0, rfl, hi0, hI, hB⟩ := hrel
      clear hnew hB0
      by_cases hlt : i0 < s.size
      · have hi4 : i0 + 4 ≤ s.size := by obtain ⟨g, h, _⟩ := hI.out; have := hsG.out; omega
        go_wp2
        obtain ⟨w2, rfl⟩ : ∃ w2 : World, w2 = wr := ⟨_, rfl⟩
        go_loopw [7, 8, 9, 10] (fun v n k _ wq => ∃ (j vv nn : Nat), j ≤ 4 ∧ v = .int .i64 vv ∧ n = .int .i64 nn ∧ k = .int .i64 ((i0 + j : Nat) : Int) ∧ vv < 16777216 ∧ (j < 4 → vv < 262144) ∧ nn ≤ j ∧ Hid (vv = vAt s.data.toList r.size i0 j) ∧ Hid (nn = min j (r.size - i0)) ∧ w2 = wq) (fun _ _ k _ _ => i0 + 4 - (intOf k).toNat)
        case atStart => exact ⟨0, 0, 0, by decide, rfl, rfl, rfl, by decide, fun _ => by decide, Nat.le_refl _, Lib.hid rfl, Lib.hid (by simp), rfl⟩
        case round =>
          obtain ⟨j, vv, nn, hj, rfl, rfl, rfl, hv, hv4, hnn, hV, hN, rfl⟩ := hrel
          have hvl := vAt_lt s.data.toList r.size i0 (j + 1)
          by_cases hj4 : j < 4
          · have hv2 := hv4 hj4
            have hp : 64 ^ (j + 1) ≤ 16777216 := Nat.pow_le_pow_right (by decide) (show j + 1 ≤ 4 by omega)
            have hp3 : j + 1 < 4 → 64 ^ (j + 1) ≤ 262144 := fun h => Nat.pow_le_pow_right (by decide) (show j + 1 ≤ 3 by omega)
            clear hv4
            by_cases hkr : i0 + j < r.size
            · have hix := fun w' => Tryd.strings_IndexByte (⟨#[65, 66, 67, 68, 69, 70, 71, 72, 73, 74, 75, 76, 77, 78, 79, 80, 81, 82, 83, 84, 85, 86, 87, 88, 89, 90, 97, 98, 99, 100, 101, 102, 103, 104, 105, 106, 107, 108, 109, 110, 111, 112, 113, 114, 115, 116, 117, 118, 119, 120, 121, 122, 48, 49, 50, 51, 52, 53, 54, 55, 56, 57, 43, 47]⟩ : ByteArray) (r[i0 + j].toNat : Int) w'
              rw [byte_back] at hix
              have hat := trimR_at s r hrl'.out (i0 + j) hkr
              obtain ⟨c, hc⟩ : ∃ c, c = r[i0 + j] := ⟨_, rfl⟩
              cases hL : isL c
              · have hbad := Lib.hid (show unb s.data.toList = none by
                  obtain ⟨g, hg, _⟩ := hI.out
                  subst hg
                  exact unb_bad hG'.out (i := g) (j := j) (by have := hsG.out; omega) hj4 (by rw [← hrz'.out]; exact hkr) (by rw [← hat, ← hc]; exact hL))
                obtain ⟨d, hd⟩ : ∃ d, d = Lib.indexByte lettersL c := ⟨_, rfl⟩
                have hd0 : d < 0 := by unfold isL at hL; have := of_decide_eq_false hL; omega
                have hix2 : ∀ w', Calls Tryd.prog 46 #[.string (⟨#[65, 66, 67, 68, 69, 70, 71, 72, 73, 74, 75, 76, 77, 78, 79, 80, 81, 82, 83, 84, 85, 86, 87, 88, 89, 90, 97, 98, 99, 100, 101, 102, 103, 104, 105, 106, 107, 108, 109, 110, 111, 112, 113, 114, 115, 116, 117, 118, 119, 120, 121, 122, 48, 49, 50, 51, 52, 53, 54, 55, 56, 57, 43, 47]⟩ : ByteArray), .int .u8 r[i0 + j].toNat] w' fun e w'' => e = .returned (.int .i64 d) ∧ w'' = w' := fun w' => by
                  have := hix w'
                  rw [hd, hc]; exact this
                clear hix hat hL hd hc hvl hp hp3
                go_wp2_with fail
                refine (hix2 _).mono ?_
                rintro e w3 ⟨rfl, hw3⟩
                rw [hw3]
                clear hix2 hw3
                go_wp2
                go_ret2
                exact ⟨by rw [unbV_none hbad.out]; rfl, hB.out⟩
              · obtain ⟨d, hd⟩ : ∃ d, d = n6 c := ⟨_, rfl⟩
                have hd64 : d < 64 := by rw [hd]; exact n6_lt c
                have hix2 : ∀ w', Calls Tryd.prog 46 #[.string (⟨#[65, 66, 67, 68, 69, 70, 71, 72, 73, 74, 75, 76, 77, 78, 79, 80, 81, 82, 83, 84, 85, 86, 87, 88, 89, 90, 97, 98, 99, 100, 101, 102, 103, 104, 105, 106, 107, 108, 109, 110, 111, 112, 113, 114, 115, 116, 117, 118, 119, 120, 121, 122, 48, 49, 50, 51, 52, 53, 54, 55, 56, 57, 43, 47]⟩ : ByteArray), .int .u8 r[i0 + j].toNat] w' fun e w'' => e = .returned (.int .i64 d) ∧ w'' = w' := fun w' => by
                  have := hix w'
                  rw [hd, ← idx_n6 hL, hc]; exact this
                have hV2 := Lib.hid (show vv * 64 + d = vAt s.data.toList r.size i0 (j + 1) by rw [vAt, ← hV.out, if_pos hkr, ← hat, ← hc, hd])
                have hN2 := Lib.hid (show nn + 1 = min (j + 1) (r.size - i0) by rw [hN.out]; omega)
                have hor := or_six vv d hv2 hd64
                have hlt1 : vv * 64 + d < 16777216 := by omega
                have hlt2 : j + 1 < 4 → vv * 64 + d < 262144 := fun h => by have := hp3 h; rw [hV2.out]; omega
                clear hix hat hL hd hc hvl hp hp3
                go_wp2_with fail
                refine (hix2 _).mono ?_
                rintro e w3 ⟨rfl, hw3⟩
                rw [hw3]
                clear hix2 hw3
                go_wp2
                go_roundw
                case rel => exact ⟨j + 1, vv * 64 + d, nn + 1, by omega, by go_num, by go_num, by go_num, hlt1, hlt2, by omega, hV2, hN2, by trivial⟩
                case measure => simp [intOf]; omega
            · have hV2 := Lib.hid (show vv * 64 = vAt s.data.toList r.size i0 (j + 1) by rw [vAt, ← hV.out, if_neg hkr, Nat.add_zero])
              have hN2 := Lib.hid (show nn = min (j + 1) (r.size - i0) by rw [hN.out]; omega)
              have hlt2 : j + 1 < 4 → vv * 64 < 262144 := fun h => by have := hp3 h; rw [hV2.out]; omega
              clear hvl hp hp3
              go_wp2
              go_roundw
              case rel => exact ⟨j + 1, vv * 64, nn, by omega, by go_num, rfl, by go_num, by omega, hlt2, by omega, hV2, hN2, by trivial⟩
              case measure => simp [intOf]; omega
          · obtain rfl : j = 4 := by omega
            clear hv4 hvl
            obtain ⟨i4, hi44⟩ : ∃ i4, i4 = i0 + 4 := ⟨_, rfl⟩
            rw [← hi44]
            have hi45 : ¬ i4 < i0 + 4 := by omega
            clear hi44
            have hout : Hid (outAt s.data.toList r.size i0 = outN vv nn) := Lib.hid (by unfold outAt; rw [← hV.out, ← hN.out])
            obtain ⟨M, hM⟩ : ∃ M : Nat, M = nn - 1 := ⟨_, rfl⟩
            have hmax : max ((nn : Int) - 1) 0 = (M : Int) := by omega
            have hM3 : M ≤ 3 := by omega
            have hlo : Hid ((outN vv nn).length = M) := Lib.hid (by rw [outN_len, hM])
            clear hM hV hN
            go_wp2
            go_loopw [11, 54] (fun _ k wq => ∃ k0 : Nat, k0 ≤ M ∧ k = .int .i64 k0 ∧ Hid (∃ g, i0 = 4 * g ∧ IsB w.heap.size w.heap.size (Lib.byteCells (progGo s.data.toList r.size g ++ (outN vv nn).take k0)) wq) ∧ Hid (Below w.heap.size w wq)) (fun _ k _ => M - (intOf k).toNat)
            case atStart => exact ⟨0, Nat.zero_le _, rfl, Lib.hid (by obtain ⟨g, h1, h2⟩ := hI.out; exact ⟨g, h1, by simpa using h2⟩), hB⟩
            case round =>
              obtain ⟨k0, hk0, rfl, hI2, hB2⟩ := hrel
              by_cases hkm : k0 < M
              · obtain ⟨g, hg, hI3⟩ := hI2.out
                have hs2 := hB2.out.size
                have hll : (Lib.byteCells (progGo s.data.toList r.size g ++ (outN vv nn).take k0)).length + 1 ≤ 140737488355328 := by
                  have := progGo_len s.data.toList r.size g
                  rw [byteCells_len, List.length_append, List.length_take]; omega
                have hnx : ∀ c : UInt8, c = UInt8.ofNat (vv / 2 ^ (16 - 8 * k0) % 256) → Hid (progGo s.data.toList r.size g ++ (outN vv nn).take (k0 + 1) = (progGo s.data.toList r.size g ++ (outN vv nn).take k0) ++ [c]) := fun c hc => Lib.hid (by
                  rw [List.take_succ_eq_append_getElem (by rw [hlo.out]; exact hkm), outN_at, ← hc, List.append_assoc])
                have hg' := Lib.hid hg
                clear hg
                rcases (show k0 = 0 ∨ k0 = 1 ∨ k0 = 2 by omega) with rfl | rfl | rfl
                · have hcv : ((UInt8.ofNat (vv / 2 ^ (16 - 8 * 0) % 256)).toNat : Int) = (vv : Int) / 65536 := by rw [show vv / 2 ^ (16 - 8 * 0) = vv / 65536 from rfl, cnv8]; omega
                  have hn2 := Lib.hid (hnx _ rfl).out
                  have hcv' := Lib.hid hcv
                  clear hnx hcv
                  go_wp2_with fail
                  refine (writeByte _ _ _ _ _ hI3 hll hs2).mono ?_
                  rintro e w3 ⟨rfl, hA3, hB3⟩
                  have hB4 := Lib.hid (hB2.out.trans hB3)
                  go_wp2
                  go_roundw
                  case rel =>
                    refine ⟨0 + 1, by omega, by go_num, Lib.hid ⟨g, hg'.out, .inr ?_⟩, hB4⟩
                    rw [hn2.out, byteCells_snoc, hcv'.out]
                    exact hA3
                  case measure => simp [intOf]; omega
                · have hcv : ((UInt8.ofNat (vv / 2 ^ (16 - 8 * 1) % 256)).toNat : Int) = (vv : Int) / 256 % 256 := by rw [show vv / 2 ^ (16 - 8 * 1) = vv / 256 from rfl, cnv8]; omega
                  have hn2 := Lib.hid (hnx _ rfl).out
                  have hcv' := Lib.hid hcv
                  clear hnx hcv
                  go_wp2_with fail
                  refine (writeByte _ _ _ _ _ hI3 hll hs2).mono ?_
                  rintro e w3 ⟨rfl, hA3, hB3⟩
                  have hB4 := Lib.hid (hB2.out.trans hB3)
                  go_wp2
                  go_roundw
                  case rel =>
                    refine ⟨1 + 1, by omega, by go_num, Lib.hid ⟨g, hg'.out, .inr ?_⟩, hB4⟩
                    rw [hn2.out, byteCells_snoc, hcv'.out]
                    exact hA3
                  case measure => simp [intOf]; omega
                · have hcv : ((UInt8.ofNat (vv / 2 ^ (16 - 8 * 2) % 256)).toNat : Int) = (vv : Int) % 256 := by rw [show vv / 2 ^ (16 - 8 * 2) = vv / 1 from rfl, cnv8]; omega
                  have hn2 := Lib.hid (hnx _ rfl).out
                  have hcv' := Lib.hid hcv
                  clear hnx hcv
                  go_wp2_with fail
                  refine (writeByte _ _ _ _ _ hI3 hll hs2).mono ?_
                  rintro e w3 ⟨rfl, hA3, hB3⟩
                  have hB4 := Lib.hid (hB2.out.trans hB3)
                  go_wp2
                  go_roundw
                  case rel =>
                    refine ⟨2 + 1, by omega, by go_num, Lib.hid ⟨g, hg'.out, .inr ?_⟩, hB4⟩
                    rw [hn2.out, byteCells_snoc, hcv'.out]
                    exact hA3
                  case measure => simp [intOf]; omega
              · obtain rfl : k0 = M := by omega
                have hI4 : Hid (∃ g, i0 + 4 = 4 * g ∧ IsB w.heap.size w.heap.size (Lib.byteCells (progGo s.data.toList r.size g)) wr) := Lib.hid (by
                  obtain ⟨g, h1, h2⟩ := hI2.out
                  refine ⟨g + 1, by omega, ?_⟩
                  rw [progGo, ← h1, hout.out]
                  rwa [List.take_of_length_le (by rw [hlo.out]; exact Nat.le_refl _)] at h2)
                go_wp2
                go_roundw
                case rel => exact ⟨i0 + 4, by go_num, hi4, hI4, hB2⟩
                case measure => simp [intOf]; omega
      · obtain rfl : s.size = i0 := by omega
        have hI' : IsB w.heap.size w.heap.size (Lib.byteCells (progGo s.data.toList r.size G)) wr := by
          obtain ⟨g, h1, h2⟩ := hI.out
          have := hsG.out
          obtain rfl : g = G := by omega
          exact h2
        have hpl := progGo_len s.data.toList r.size G
        have hlen := b64_len (progGo s.data.toList r.size G)
        have hyes := Lib.hid (fun h => unb_yes (l := s.data.toList) (g := G) h)
        have hno := Lib.hid (fun h => unb_no (l := s.data.toList) (g := G) hG'.out h)
        rw [← hrz'.out] at hyes hno
        generalize progGo s.data.toList r.size G = O at hI' hpl hlen hyes hno
        obtain ⟨ob, hob⟩ : ∃ ob : ByteArray, ob = ⟨O.toArray⟩ := ⟨_, rfl⟩
        have hol : ob.data.toList = O := by rw [hob]
        have hos : ob.size ≤ 100000 := by rw [sz_len, hol]; have := hsG.out; omega
        have hst := Tryd.Builder_String_any _ _ _ _ hI' hB.out.size
        have hb6 := fun w' => codingBase64 ob w' (by omega)
        rw [hol] at hb6
        rw [← hob] at hst
        obtain ⟨B, hB'⟩ : ∃ B : ByteArray, B = ⟨(b64 O).toArray⟩ := ⟨_, rfl⟩
        rw [← hB'] at hb6
        have hq0 : (B.toList == s.toList) = decide (b64 O = s.data.toList) := by
          rw [Lib.toList_data, Lib.toList_data, hB', mk_toList]
          by_cases h : b64 O = s.data.toList <;> simp [h]
        have hob' := Lib.hid hob
        clear hB' hob hpl hlen hol hI'
        cases hq : (B.toList == s.toList)
        · have hv := Lib.hid (hno.out (by rw [hq] at hq0; exact of_decide_eq_false hq0.symm))
          clear hq0
          go_wp2_with fail
          refine hst.mono ?_
          rintro e w4 ⟨rfl, hB4⟩
          have hB5 := Lib.hid (hB.out.trans hB4)
          go_wp2_with fail
          refine (hb6 _).mono ?_
          rintro e w5 ⟨rfl, hB6⟩
          have hB7 := Lib.hid (hB5.out.then (Nat.le_refl _) hB6)
          go_wp2
          go_ret2
          exact ⟨by rw [unbV_none hv.out]; rfl, hB7.out⟩
        · have hv := Lib.hid (hyes.out (by rw [hq] at hq0; exact of_decide_eq_true hq0.symm))
          clear hq0
          go_wp2_with fail
          refine hst.mono ?_
          rintro e w4 ⟨rfl, hB4⟩
          have hB5 := Lib.hid (hB.out.trans hB4)
          go_wp2_with fail
          refine (hb6 _).mono ?_
          rintro e w5 ⟨rfl, hB6⟩
          have hB7 := Lib.hid (hB5.out.then (Nat.le_refl _) hB6)
          go_wp2
          go_ret2
          exact ⟨by rw [unbV_some hv.out, hob'.out]; rfl, hB7.out⟩
  · have hm1 : ¬ (s.size : Int).tmod 4 = 0 := by rw [hm]; omega
    have hbad := Lib.hid (unb_len (l := s.data.toList) (by rw [← sz_len]; exact h4))
    clear hm
    go_enter Tryd.func17, Tryd.ntmps17
    go_wp2
    go_ret2
    exact ⟨by rw [unbV_none hbad.out]; rfl, Below.refl _ _⟩
end Go.Proofs.YtdlhihfjigcimaaDoor
