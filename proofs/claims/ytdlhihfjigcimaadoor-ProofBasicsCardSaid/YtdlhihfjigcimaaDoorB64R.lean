/- The reference's Base64: bit by bit. -/
import Derived.Test.YtdlhihfjigcimaaDoorB64W
import Derived.Test.YtdlhihfjigcimaaDoorParse2
import Derived.Test.YtdlhihfjigcimaaDoorCurs
namespace Go.Proofs.YtdlhihfjigcimaaDoor
open Go.RowKit
theorem bits_all (l : List UInt8) : (bitsOf l).all isBit = true := by
  unfold bitsOf
  rw [List.all_flatMap, List.all_eq_true]
  intro c _
  simp only [bits8]
  have h : ∀ n : Nat, isBit (sig (n % 2)) = true := fun n => by rcases Nat.mod_two_eq_zero_or_one n with e | e <;> rw [e] <;> decide
  simp [h]
theorem pad6_all (l : List UInt8) : (pad6 (bitsOf l)).all isBit = true := by
  unfold pad6
  rw [List.all_append, bits_all, Bool.true_and, List.all_eq_true]
  intro c hc
  rw [List.eq_of_mem_replicate hc]; decide
theorem pad6_mod (l : List UInt8) : (pad6 l).length % 6 = 0 := by
  unfold pad6; rw [List.length_append, List.length_replicate]; omega
theorem groups_len : ∀ l : List UInt8, 6 * (groups l).length ≤ l.length
  | a :: b :: c :: d :: e :: f :: r => by
    have := groups_len r
    simp only [groups, List.length_cons]; omega
  | [] => by simp [groups]
  | [_] => by simp [groups]
  | [_, _] => by simp [groups]
  | [_, _, _] => by simp [groups]
  | [_, _, _, _] => by simp [groups]
  | [_, _, _, _, _] => by simp [groups]
theorem six_cut (l : List UInt8) (h : 6 ≤ l.length) : ∃ a b c d e f r, l = a :: b :: c :: d :: e :: f :: r := by
  match l, h with
  | a :: b :: c :: d :: e :: f :: r, _ => exact ⟨a, b, c, d, e, f, r, rfl⟩
  | [], h => simp at h
  | [_], h => simp at h
  | [_, _], h => simp at h
  | [_, _, _], h => simp at h
  | [_, _, _, _], h => simp at h
  | [_, _, _, _, _], h => simp at h
theorem bitsOf_snoc (l : List UInt8) (k : Nat) (h : k < l.length) : bitsOf (l.take (k + 1)) = bitsOf (l.take k) ++ tailD 2 l[k].toNat 8 := by
  unfold bitsOf; rw [List.take_succ_eq_append_getElem h, List.flatMap_append]; simp
theorem rep_snoc (l : List UInt8) (j : Nat) (c : UInt8) : l ++ List.replicate (j + 1) c = (l ++ List.replicate j c) ++ [c] := by rw [List.replicate_succ', List.append_assoc]
set_option maxRecDepth 100000 in
set_option maxHeartbeats 4000000 in
theorem refBase64 (s : ByteArray) (w : World) (hs : s.size ≤ 100000) (hd : Deb w) :
    Calls Tryd.prog 50 #[.string s] w fun e w' => e = .returned (.string ⟨(b64 s.data.toList).toArray⟩) ∧ Below w.heap.size w w' := by
  go_enter Tryd.func50, Tryd.ntmps50
  go_wp2
  go_loopw [3, 10] (fun o i wr => ∃ (k : Nat) (S : ByteArray), k ≤ s.size ∧ i = .int .i64 k ∧ o = .string S ∧ S.size ≤ 8 * k ∧ Hid (S.data.toList = bitsOf (s.data.toList.take k)) ∧ Below w.heap.size w wr) (fun _ i _ => s.size - (intOf i).toNat)
  case atStart => exact ⟨0, ⟨#[]⟩, Nat.zero_le _, rfl, rfl, Nat.zero_le _, Lib.hid rfl, Below.refl _ _⟩
  case round =>
    obtain ⟨k, S, hk, rfl, rfl, hSs, hS, hB⟩ := hrel
    by_cases hlt : k < s.size
    · have hl : k < s.data.toList.length := by rw [← sz_len]; exact hlt
      have hnext := bitsOf_snoc s.data.toList k hl
      rw [at_list s k hlt hl] at hnext
      have hf := filled_2 s[k].toNat 8 (by have := s[k].toNat_lt; omega) (by decide) wr (hd.later hB)
      rw [fillD_small (by decide) (by decide) (show s[k].toNat < 2 ^ 8 from s[k].toNat_lt)] at hf
      obtain ⟨F, hF⟩ : ∃ F : ByteArray, F = ⟨(tailD 2 s[k].toNat 8).toArray⟩ := ⟨_, rfl⟩
      rw [← hF, show ((8 : Nat) : Int) = 8 from rfl] at hf
      have hFl : F.data.toList = tailD 2 s[k].toNat 8 := by rw [hF, mk_toList]
      have hFs : F.size = 8 := by rw [sz_len, hFl, tailD_length]
      have hFs1 : F.size ≤ 8 := by omega
      have hn' : Hid ((S ++ F).data.toList = bitsOf (s.data.toList.take (k + 1))) := Lib.hid (by rw [add_toList, hS.out, hFl, hnext])
      have hc256 := bd8 s[k]
      clear hF hFl hFs hnext
      go_wp2_with fail
      refine hf.mono ?_
      rintro e w1 ⟨rfl, hB1⟩
      have hB2 := hB.then (Nat.le_refl _) hB1
      have hadd := run_string_add_sum (P := Tryd.prog) w1 S F (by omega)
      go_wp2
      go_roundw
      case rel => exact ⟨k + 1, S ++ F, by omega, by go_num, rfl, by rw [add_size]; omega, hn', hB2⟩
      case measure => simp [intOf]; omega
    · obtain rfl : s.size = k := by omega
      have hS1 : Hid (S.data.toList = bitsOf s.data.toList) := Lib.hid (by rw [hS.out, sz_len, List.take_length])
      clear hS
      have hSz : S.size = 8 * s.size := by rw [sz_len, hS1.out, bitsOf_len, ← sz_len]
      obtain ⟨n0, hn0⟩ : ∃ n0 : Nat, n0 = S.size := ⟨_, rfl⟩
      have hn0b : n0 ≤ 800000 := by omega
      have hn0' : Hid (n0 = (bitsOf s.data.toList).length) := Lib.hid (by rw [hn0, sz_len, hS1.out])
      have hsrel := Lib.hid hSz
      clear hSz
      go_wp2
      obtain ⟨w1, rfl⟩ : ∃ w1 : World, w1 = wr := ⟨_, rfl⟩
      go_loopg [3] ((6 - n0 % 6) % 6) (fun g x wq => ∃ (T : ByteArray) (j : Nat), x = .string T ∧ j ≤ (6 - n0 % 6) % 6 ∧ Hid (g = (6 - n0 % 6) % 6 - j) ∧ T.size = n0 + j ∧ Hid (T.data.toList = bitsOf s.data.toList ++ List.replicate j 48) ∧ w1 = wq)
      case atStart => exact ⟨S, 0, rfl, Nat.zero_le _, Lib.hid rfl, by omega, Lib.hid (by rw [hS1.out]; simp), rfl⟩
      case round =>
        obtain ⟨T, j, rfl, hj, hg, hTs, hT, rfl⟩ := hrel
        by_cases hjm : j < (6 - n0 % 6) % 6
        · have h6 : (0 : Int) < (T.size : Int) % 6 := by omega
          have hadd := run_string_add_sum (P := Tryd.prog) w1 T ⟨#[48]⟩ (by rw [show (⟨#[48]⟩ : ByteArray).size = 1 from rfl]; omega)
          go_wp2
          go_roundg ((6 - n0 % 6) % 6 - (j + 1))
          case rel => exact ⟨_, j + 1, rfl, by omega, Lib.hid rfl, by rw [add_size, show (⟨#[48]⟩ : ByteArray).size = 1 from rfl]; omega, Lib.hid (by rw [add_toList, hT.out, rep_snoc]), by trivial⟩
          case measure => have := hg.out; omega
        · have h6 : ¬(0 : Int) < (T.size : Int) % 6 := by omega
          have hT2 : Hid (T.data.toList = pad6 (bitsOf s.data.toList)) := Lib.hid (by
            rw [hT.out]; unfold pad6
            rw [← hn0'.out, show j = (6 - n0 % 6) % 6 by omega])
          have hTb : T.size ≤ 800005 := by omega
          have hTm : T.size % 6 = 0 := by omega
          have hTm' := Lib.hid hTm
          clear hTs hT hTm
          go_wp2
          go_loopg [3, 5] T.size (fun g x o wq => ∃ (U O : ByteArray), x = .string U ∧ o = .string O ∧ U.size ≤ g ∧ U.size + O.size ≤ 800005 ∧ Hid (U.size % 6 = 0) ∧ Hid (U.data.toList.all isBit = true) ∧ Hid (groups (pad6 (bitsOf s.data.toList)) = O.data.toList ++ groups U.data.toList) ∧ Below w.heap.size w wq)
          case atStart => exact ⟨T, ⟨#[]⟩, rfl, rfl, Nat.le_refl _, hTb, hTm', Lib.hid (by rw [hT2.out]; exact pad6_all _), Lib.hid (by rw [hT2.out]; rfl), hB⟩
          case round =>
            obtain ⟨U, O, rfl, rfl, hU, hUO, hUm, hUa, hinv, hBq⟩ := hrel
            by_cases hU0 : U.size = 0
            · have hUl : U.data.toList = [] := List.length_eq_zero_iff.1 (by rw [← sz_len]; exact hU0)
              have hUe : U.toList.isEmpty = true := by rw [Lib.toList_data, hUl]; rfl
              have hO : Hid (O.data.toList = groups (pad6 (bitsOf s.data.toList))) := Lib.hid (by rw [hinv.out, hUl]; simp [groups])
              have hOs : O.size ≤ 800005 := by omega
              clear hUl hU0 hU hUO
              go_wp2
              obtain ⟨w2, rfl⟩ : ∃ w2 : World, w2 = wr := ⟨_, rfl⟩
              obtain ⟨n1, hn1⟩ : ∃ n1 : Nat, n1 = O.size := ⟨_, rfl⟩
              have hn1' : Hid (n1 = (groups (pad6 (bitsOf s.data.toList))).length) := Lib.hid (by rw [hn1, sz_len, hO.out])
              go_loopg [5] ((4 - n1 % 4) % 4) (fun g x wq => ∃ (V : ByteArray) (j : Nat), x = .string V ∧ j ≤ (4 - n1 % 4) % 4 ∧ Hid (g = (4 - n1 % 4) % 4 - j) ∧ V.size = n1 + j ∧ Hid (V.data.toList = groups (pad6 (bitsOf s.data.toList)) ++ List.replicate j 61) ∧ w2 = wq)
              case atStart => exact ⟨O, 0, rfl, Nat.zero_le _, Lib.hid rfl, by omega, Lib.hid (by rw [hO.out]; simp), rfl⟩
              case round =>
                obtain ⟨V, j2, rfl, hj2, hg2, hVs, hV, rfl⟩ := hrel
                by_cases hjm2 : j2 < (4 - n1 % 4) % 4
                · have h4 : (0 : Int) < (V.size : Int) % 4 := by omega
                  have hadd := run_string_add_sum (P := Tryd.prog) w2 V ⟨#[61]⟩ (by rw [show (⟨#[61]⟩ : ByteArray).size = 1 from rfl]; omega)
                  go_wp2
                  go_roundg ((4 - n1 % 4) % 4 - (j2 + 1))
                  case rel => exact ⟨_, j2 + 1, rfl, by omega, Lib.hid rfl, by rw [add_size, show (⟨#[61]⟩ : ByteArray).size = 1 from rfl]; omega, Lib.hid (by rw [add_toList, hV.out, rep_snoc]), by trivial⟩
                  case measure => have := hg2.out; omega
                · have h4 : ¬(0 : Int) < (V.size : Int) % 4 := by omega
                  have hfin : Hid (V.data.toList = b64 s.data.toList) := Lib.hid (by
                    rw [← b64_bits, hV.out]; unfold pad4
                    rw [← hn1'.out, show j2 = (4 - n1 % 4) % 4 by omega])
                  go_wp2
                  go_ret
                  exact ⟨ret_str (ba_eq hfin.out), hBq⟩
            · have hU6 : 6 ≤ U.size := by have := hUm.out; omega
              obtain ⟨a, b, c, d, e, f, r, hUl⟩ := six_cut U.data.toList (by rw [← sz_len]; exact hU6)
              have hUe : U.toList.isEmpty = false := by rw [Lib.toList_data, hUl]; rfl
              have hU6l : (U.extract 0 6).data.toList = [a, b, c, d, e, f] := by rw [Lib.extract_data, hUl]; rfl
              have hUr : (U.extract 6 U.size).data.toList = r := by rw [Lib.extract_to_end, hUl]; rfl
              have hall := hUa.out
              rw [hUl] at hall
              simp only [List.all_cons, Bool.and_eq_true] at hall
              have ha6 : (U.extract 0 6).data.toList.all isBit = true := by rw [hU6l]; simp [hall]
              have hs6 : (U.extract 0 6).size = 6 := by rw [sz_len, hU6l]; rfl
              have hp := fun w => parseInt2 (U.extract 0 6) w (by omega) (by omega) ha6
              have hvl := val_lt [a, b, c, d, e, f] (by simp [hall]) 6 (Nat.le_refl _)
              rw [hU6l] at hp
              obtain ⟨n, hn⟩ : ∃ n : Nat, n = val [a, b, c, d, e, f] := ⟨_, rfl⟩
              rw [← hn] at hp
              have hn64 : n < 64 := by rw [hn]; exact hvl
              have hx := ext_one ⟨#[65, 66, 67, 68, 69, 70, 71, 72, 73, 74, 75, 76, 77, 78, 79, 80, 81, 82, 83, 84, 85, 86, 87, 88, 89, 90, 97, 98, 99, 100, 101, 102, 103, 104, 105, 106, 107, 108, 109, 110, 111, 112, 113, 114, 115, 116, 117, 118, 119, 120, 121, 122, 48, 49, 50, 51, 52, 53, 54, 55, 56, 57, 43, 47]⟩ n hn64
              rw [let6_at n hn64] at hx
              have hx' := Lib.hid hx
              have hxs : (ByteArray.extract ⟨#[65, 66, 67, 68, 69, 70, 71, 72, 73, 74, 75, 76, 77, 78, 79, 80, 81, 82, 83, 84, 85, 86, 87, 88, 89, 90, 97, 98, 99, 100, 101, 102, 103, 104, 105, 106, 107, 108, 109, 110, 111, 112, 113, 114, 115, 116, 117, 118, 119, 120, 121, 122, 48, 49, 50, 51, 52, 53, 54, 55, 56, 57, 43, 47]⟩ n (n + 1)).size = 1 := by rw [hx]; rfl
              have hadd := fun w => run_string_add_sum (P := Tryd.prog) w O (ByteArray.extract ⟨#[65, 66, 67, 68, 69, 70, 71, 72, 73, 74, 75, 76, 77, 78, 79, 80, 81, 82, 83, 84, 85, 86, 87, 88, 89, 90, 97, 98, 99, 100, 101, 102, 103, 104, 105, 106, 107, 108, 109, 110, 111, 112, 113, 114, 115, 116, 117, 118, 119, 120, 121, 122, 48, 49, 50, 51, 52, 53, 54, 55, 56, 57, 43, 47]⟩ n (n + 1)) (by rw [hxs]; omega)
              have hnext : Hid (groups (pad6 (bitsOf s.data.toList)) = (O.data.toList ++ [let6 n]) ++ groups r) := Lib.hid (by
                rw [hinv.out, hUl, hn]; simp [groups])
              have hUr' := Lib.hid hUr
              have hra : Hid (r.all isBit = true) := Lib.hid (by simp [hall])
              have hrs : (U.extract 6 U.size).size = U.size - 6 := by rw [sz_len, hUr, sz_len, hUl]; simp
              have hrs' := Lib.hid hrs
              have hUm2 := hUm
              clear hUl hU6l hUr hall ha6 hs6 hvl hn hx hxs hrs hU0
              go_wp2_with fail
              refine (hp _).mono ?_
              rintro e1 w3 ⟨rfl, hB3⟩
              have hB4 := hBq.then (Nat.le_refl _) hB3
              have hadd' := hadd w3
              clear hadd hp
              go_wp2
              go_roundg (U.size - 6)
              case rel =>
                refine ⟨U.extract 6 U.size, _, rfl, rfl, by rw [hrs'.out]; omega, ?_, Lib.hid (by rw [hrs'.out]; have := hUm2.out; omega), Lib.hid (by rw [hUr'.out]; exact hra.out), Lib.hid ?_, hB4⟩
                · rw [hrs'.out, add_size, hx'.out, show (⟨#[let6 n]⟩ : ByteArray).size = 1 from rfl]; omega
                · rw [add_toList, hx'.out, hUr'.out]; exact hnext.out
              case measure => omega
end Go.Proofs.YtdlhihfjigcimaaDoor
