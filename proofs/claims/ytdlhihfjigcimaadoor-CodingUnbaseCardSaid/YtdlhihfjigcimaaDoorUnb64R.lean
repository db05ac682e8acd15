/- The reference's Unbase64: bits are read, and it is looked whether they were written so. -/
import Derived.Test.YtdlhihfjigcimaaDoorUnb64W
import Derived.Test.YtdlhihfjigcimaaDoorB64R
import Derived.Deep.CutBlock
namespace Go.Proofs.YtdlhihfjigcimaaDoor
open Go.RowKit
def unbRV (l : List UInt8) : Value := match unb l with
  | some x => .tuple #[.string ⟨x.toArray⟩, .int .i64 0]
  | none => .tuple #[.string ⟨#[]⟩, .int .i64 3]
theorem unbRV_some {l x : List UInt8} (h : unb l = some x) : unbRV l = .tuple #[.string ⟨x.toArray⟩, .int .i64 0] := by unfold unbRV; rw [h]
theorem unbRV_none {l : List UInt8} (h : unb l = none) : unbRV l = .tuple #[.string ⟨#[]⟩, .int .i64 3] := by unfold unbRV; rw [h]
theorem bitsN_snoc (l : List UInt8) (k : Nat) (h : k < l.length) : bitsN (l.take (k + 1)) = bitsN (l.take k) ++ tailD 2 (n6 l[k]) 6 := by
  unfold bitsN; rw [List.take_succ_eq_append_getElem h, List.flatMap_append]; simp
theorem bitsN_len (l : List UInt8) : (bitsN l).length = 6 * l.length := by
  induction l with
  | nil => rfl
  | cons c r ih =>
    have e : bitsN (c :: r) = tailD 2 (n6 c) 6 ++ bitsN r := by simp [bitsN]
    rw [e, List.length_append, tailD_length, ih, List.length_cons]; omega
theorem tail6_all (n : Nat) : (tailD 2 n 6).all isBit = true := by
  have h : ∀ n : Nat, isBit (sig (n % 2)) = true := fun n => by rcases Nat.mod_two_eq_zero_or_one n with e | e <;> rw [e] <;> decide
  simp only [tailD, List.all_cons, List.all_nil, h, Bool.and_self]
theorem bitsN_all (l : List UInt8) : (bitsN l).all isBit = true := by
  unfold bitsN
  rw [List.all_flatMap, List.all_eq_true]
  intro c _
  exact tail6_all _
theorem takeW_stop (l : List UInt8) (k : Nat) (h : k < l.length) (ha : ∀ c ∈ l.take k, isL c = true) (hn : isL l[k] = false) : l.takeWhile isL = l.take k := by
  have e : l = l.take k ++ l[k] :: l.drop (k + 1) := by rw [List.getElem_cons_drop, List.take_append_drop]
  generalize l[k] = c at e hn
  generalize l.take k = a at e ha ⊢
  generalize l.drop (k + 1) = b at e
  rw [e]
  clear e h
  induction a with
  | nil => simp [hn]
  | cons x a ih =>
    rw [List.cons_append, List.takeWhile_cons, if_pos (ha x (by simp)), ih (fun c hc => ha c (by simp [hc]))]
theorem takeW_all (l : List UInt8) (ha : ∀ c ∈ l, isL c = true) : l.takeWhile isL = l := by
  induction l with
  | nil => rfl
  | cons x a ih => rw [List.takeWhile_cons, if_pos (ha x (by simp)), ih (fun c hc => ha c (by simp [hc]))]
theorem oct_cut (l : List UInt8) (h : 8 ≤ l.length) : ∃ a b c d e f g i r, l = a :: b :: c :: d :: e :: f :: g :: i :: r := by
  match l, h with
  | a :: b :: c :: d :: e :: f :: g :: i :: r, _ => exact ⟨a, b, c, d, e, f, g, i, r, rfl⟩
  | [], h | [_], h | [_, _], h | [_, _, _], h | [_, _, _, _], h | [_, _, _, _, _], h | [_, _, _, _, _, _], h | [_, _, _, _, _, _, _], h => simp at h
set_option maxRecDepth 100000 in
set_option maxHeartbeats 4000000 in
theorem refUnbase64 (s : ByteArray) (w : World) (hs : s.size ≤ 10000) (hd : Deb w) :
    Calls Tryd.prog 16 #[.string s] w fun e w' => e = .returned (unbRV s.data.toList) ∧ Below w.heap.size w w' := by
  go_enter Tryd.func16, Tryd.ntmps16
  go_upto_block 0 with (fail)
  go_cut [4] (fun b wx => ∃ S : ByteArray, b = .string S ∧ S.size ≤ 60000 ∧ Hid (S.data.toList = bitsN (s.data.toList.takeWhile isL)) ∧ Hid (Below w.heap.size w wx))
  case first =>
    go_wp2_with (fail)
    go_loopw [4, 12] (fun o i wr => ∃ (k : Nat) (S : ByteArray), k ≤ s.size ∧ i = .int .i64 k ∧ o = .string S ∧ S.size ≤ 6 * k ∧ Hid (S.data.toList = bitsN (s.data.toList.take k)) ∧ Hid (∀ c ∈ s.data.toList.take k, isL c = true) ∧ Hid (Below w.heap.size w wr)) (fun _ i _ => s.size - (intOf i).toNat)
    case atStart => exact ⟨0, ⟨#[]⟩, Nat.zero_le _, rfl, rfl, Nat.zero_le _, Lib.hid rfl, Lib.hid (by simp), Lib.hid (Below.refl _ _)⟩
    case round =>
      obtain ⟨k, S, hk, rfl, rfl, hSs, hS, hA, hB⟩ := hrel
      by_cases hlt : k < s.size
      · have hl : k < s.data.toList.length := by rw [← sz_len]; exact hlt
        have hat := at_list s k hlt hl
        have hix := fun w' => Tryd.strings_IndexByte (⟨#[65, 66, 67, 68, 69, 70, 71, 72, 73, 74, 75, 76, 77, 78, 79, 80, 81, 82, 83, 84, 85, 86, 87, 88, 89, 90, 97, 98, 99, 100, 101, 102, 103, 104, 105, 106, 107, 108, 109, 110, 111, 112, 113, 114, 115, 116, 117, 118, 119, 120, 121, 122, 48, 49, 50, 51, 52, 53, 54, 55, 56, 57, 43, 47]⟩ : ByteArray) (s[k].toNat : Int) w'
        rw [byte_back] at hix
        have hnext := bitsN_snoc s.data.toList k hl
        rw [hat] at hnext
        obtain ⟨c, hc⟩ : ∃ c, c = s[k] := ⟨_, rfl⟩
        cases hL : isL c
        · have hstop := Lib.hid (takeW_stop s.data.toList k hl hA.out (by rw [hat, ← hc]; exact hL))
          obtain ⟨d, hd'⟩ : ∃ d, d = Lib.indexByte lettersL c := ⟨_, rfl⟩
          have hd0 : d < 0 := by unfold isL at hL; have := of_decide_eq_false hL; omega
          have hix2 : ∀ w', Calls Tryd.prog 46 #[.string (⟨#[65, 66, 67, 68, 69, 70, 71, 72, 73, 74, 75, 76, 77, 78, 79, 80, 81, 82, 83, 84, 85, 86, 87, 88, 89, 90, 97, 98, 99, 100, 101, 102, 103, 104, 105, 106, 107, 108, 109, 110, 111, 112, 113, 114, 115, 116, 117, 118, 119, 120, 121, 122, 48, 49, 50, 51, 52, 53, 54, 55, 56, 57, 43, 47]⟩ : ByteArray), .int .u8 s[k].toNat] w' fun e w'' => e = .returned (.int .i64 d) ∧ w'' = w' := fun w' => by
            have := hix w'
            rw [hd', hc]; exact this
          have hsz : S.size ≤ 60000 := by omega
          clear hix hat hL hd' hc hnext
          go_wp2_with fail
          refine (hix2 _).mono ?_
          rintro e w3 ⟨rfl, hw3⟩
          rw [hw3]
          clear hix2 hw3
          go_wp2
          go_meet
          exact ⟨S, rfl, hsz, Lib.hid (by rw [hS.out, hstop.out]), hB⟩
        · have hA2 := Lib.hid (show ∀ c ∈ s.data.toList.take (k + 1), isL c = true from fun x hx => by
            rw [List.take_succ_eq_append_getElem hl, List.mem_append, List.mem_singleton] at hx
            rcases hx with hx | hx
            · exact hA.out x hx
            · rw [hx, hat, ← hc]; exact hL)
          obtain ⟨d, hd'⟩ : ∃ d, d = n6 c := ⟨_, rfl⟩
          have hd64 : d < 64 := by rw [hd']; exact n6_lt c
          have hix2 : ∀ w', Calls Tryd.prog 46 #[.string (⟨#[65, 66, 67, 68, 69, 70, 71, 72, 73, 74, 75, 76, 77, 78, 79, 80, 81, 82, 83, 84, 85, 86, 87, 88, 89, 90, 97, 98, 99, 100, 101, 102, 103, 104, 105, 106, 107, 108, 109, 110, 111, 112, 113, 114, 115, 116, 117, 118, 119, 120, 121, 122, 48, 49, 50, 51, 52, 53, 54, 55, 56, 57, 43, 47]⟩ : ByteArray), .int .u8 s[k].toNat] w' fun e w'' => e = .returned (.int .i64 d) ∧ w'' = w' := fun w' => by
            have := hix w'
            rw [hd', ← idx_n6 hL, hc]; exact this
          have hf := filled_2 d 6 (by omega) (by decide) wr (hd.later hB.out)
          rw [fillD_small (by decide) (by decide) (show d < 2 ^ 6 from hd64)] at hf
          obtain ⟨F, hF⟩ : ∃ F : ByteArray, F = ⟨(tailD 2 d 6).toArray⟩ := ⟨_, rfl⟩
          rw [← hF, show ((6 : Nat) : Int) = 6 from rfl] at hf
          have hFl : F.data.toList = tailD 2 d 6 := by rw [hF, mk_toList]
          have hFs : F.size = 6 := by rw [sz_len, hFl, tailD_length]
          have hFs1 : F.size ≤ 6 := by omega
          have hn' : Hid ((S ++ F).data.toList = bitsN (s.data.toList.take (k + 1))) := Lib.hid (by rw [add_toList, hS.out, hFl, hnext, ← hc, hd'])
          clear hix hat hL hd' hc hnext hF hFl hFs
          go_wp2_with fail
          refine (hix2 _).mono ?_
          rintro e w3 ⟨rfl, hw3⟩
          rw [hw3]
          clear hix2 hw3
          go_wp2_with fail
          refine hf.mono ?_
          rintro e w1 ⟨rfl, hB1⟩
          have hB2 := Lib.hid (hB.out.then (Nat.le_refl _) hB1)
          have hadd := run_string_add_sum (P := Tryd.prog) w1 S F (by omega)
          go_wp2
          go_roundw
          case rel => exact ⟨k + 1, S ++ F, by omega, by go_num, rfl, by rw [add_size]; omega, hn', hA2, hB2⟩
          case measure => simp [intOf]; omega
      · obtain rfl : s.size = k := by omega
        have hsz : S.size ≤ 60000 := by omega
        have hS1 : Hid (S.data.toList = bitsN (s.data.toList.takeWhile isL)) := Lib.hid (by
          have h1 := hA.out
          rw [hS.out, sz_len, List.take_length]
          rw [sz_len, List.take_length] at h1
          rw [takeW_all _ h1])
        go_wp2
        go_meet
        exact ⟨S, rfl, hsz, hS1, hB⟩
  case rest =>
    obtain ⟨S, rfl, hSz, hS, hB⟩ := hcut
    go_wp2
    go_loopg [4, 7] S.size (fun g x o wq => ∃ (U O : ByteArray), x = .string U ∧ o = .string O ∧ U.size ≤ g ∧ U.size + O.size ≤ 60000 ∧ Hid (U.data.toList.all isBit = true) ∧ Hid (refOut s.data.toList = O.data.toList ++ oct U.data.toList) ∧ Hid (Below w.heap.size w wq))
    case atStart => exact ⟨S, ⟨#[]⟩, rfl, rfl, Nat.le_refl _, by rw [show (⟨#[]⟩ : ByteArray).size = 0 from rfl]; omega, Lib.hid (by rw [hS.out]; exact bitsN_all _), Lib.hid (by rw [hS.out]; rfl), hB⟩
    case round =>
      obtain ⟨U, O, rfl, rfl, hU, hUO, hUa, hinv, hBq⟩ := hrel
      by_cases h8 : 8 ≤ U.size
      · obtain ⟨a, b, c, d, e, f, i, j, r, hUl⟩ := oct_cut U.data.toList (by rw [← sz_len]; exact h8)
        have hU8l : (U.extract 0 8).data.toList = [a, b, c, d, e, f, i, j] := by rw [Lib.extract_data, hUl]; rfl
        have hUr : (U.extract 8 U.size).data.toList = r := by rw [Lib.extract_to_end, hUl]; rfl
        have hall := hUa.out
        rw [hUl] at hall
        simp only [List.all_cons, Bool.and_eq_true] at hall
        have ha8 : (U.extract 0 8).data.toList.all isBit = true := by rw [hU8l]; simp [hall]
        have hs8 : (U.extract 0 8).size = 8 := by rw [sz_len, hU8l]; rfl
        have hp := fun w => parseInt2 (U.extract 0 8) w (by omega) (by omega) ha8
        have hvl := val_lt [a, b, c, d, e, f, i, j] (by simp [hall]) 8 (Nat.le_refl _)
        rw [hU8l] at hp
        obtain ⟨n, hn⟩ : ∃ n : Nat, n = val [a, b, c, d, e, f, i, j] := ⟨_, rfl⟩
        rw [← hn] at hp
        have hn256 : n < 256 := by rw [hn]; exact hvl
        have hch : chr (n : Int) = UInt8.ofNat n := by unfold chr; congr 1; omega
        have hca := fun w => char_any (n : Int) w
        rw [hch] at hca
        have hnext : Hid (refOut s.data.toList = (O.data.toList ++ [UInt8.ofNat n]) ++ oct r) := Lib.hid (by rw [hinv.out, hUl, hn]; simp [oct])
        have hUr' := Lib.hid hUr
        have hra : Hid (r.all isBit = true) := Lib.hid (by simp [hall])
        have hrs : (U.extract 8 U.size).size = U.size - 8 := by rw [sz_len, hUr, sz_len, hUl]; simp
        have hrs' := Lib.hid hrs
        have hadd := fun w => run_string_add_sum (P := Tryd.prog) w O ⟨#[UInt8.ofNat n]⟩ (by rw [show (⟨#[UInt8.ofNat n]⟩ : ByteArray).size = 1 from rfl]; omega)
        clear hUl hU8l hUr hall ha8 hs8 hvl hn hrs hch
        go_wp2_with fail
        refine (hp _).mono ?_
        rintro e1 w3 ⟨rfl, hB3⟩
        have hB4 := Lib.hid (hBq.out.then (Nat.le_refl _) hB3)
        clear hp
        go_wp2_with fail
        refine (hca _).mono ?_
        rintro e1 w4 ⟨rfl, hB5⟩
        have hB6 := Lib.hid (hB4.out.then (Nat.le_refl _) hB5)
        have hadd' := hadd w4
        clear hadd hca
        go_wp2
        go_roundg (U.size - 8)
        case rel =>
          refine ⟨U.extract 8 U.size, _, rfl, rfl, by rw [hrs'.out]; omega, ?_, Lib.hid (by rw [hUr'.out]; exact hra.out), Lib.hid ?_, hB6⟩
          · rw [hrs'.out, add_size, show (⟨#[UInt8.ofNat n]⟩ : ByteArray).size = 1 from rfl]; omega
          · rw [add_toList, hUr'.out]; exact hnext.out
        case measure => omega
      · have hO : O.data.toList = refOut s.data.toList := by rw [hinv.out, oct_short (by rw [← sz_len]; omega), List.append_nil]
        have hb6 := fun w' hd' => refBase64 O w' (by omega) hd'
        rw [hO] at hb6
        obtain ⟨B, hB'⟩ : ∃ B : ByteArray, B = ⟨(b64 (refOut s.data.toList)).toArray⟩ := ⟨_, rfl⟩
        rw [← hB'] at hb6
        have hq0 : (B.toList == s.toList) = decide (b64 (refOut s.data.toList) = s.data.toList) := by
          rw [Lib.toList_data, Lib.toList_data, hB', mk_toList]
          by_cases h : b64 (refOut s.data.toList) = s.data.toList <;> simp [h]
        have hO' := Lib.hid hO
        have hd2 := hd.later hBq.out
        clear hB' hO hinv hUa
        cases hq : (B.toList == s.toList)
        · have hv := Lib.hid (show unb s.data.toList = none by unfold unb; rw [if_neg (by rw [hq] at hq0; exact of_decide_eq_false hq0.symm)])
          have hq2 : (B.toList != s.toList) = true := by rw [bne, hq]; rfl
          clear hq0
          go_wp2_with fail
          refine (hb6 _ hd2).mono ?_
          rintro e w5 ⟨rfl, hB6⟩
          have hB7 := Lib.hid (hBq.out.then (Nat.le_refl _) hB6)
          go_wp2
          go_ret2
          exact ⟨by rw [unbRV_none hv.out]; rfl, hB7.out⟩
        · have hv := Lib.hid (show unb s.data.toList = some (refOut s.data.toList) by unfold unb; rw [if_pos (by rw [hq] at hq0; exact of_decide_eq_true hq0.symm)])
          have hq2 : (B.toList != s.toList) = false := by rw [bne, hq]; rfl
          clear hq0
          go_wp2_with fail
          refine (hb6 _ hd2).mono ?_
          rintro e w5 ⟨rfl, hB6⟩
          have hB7 := Lib.hid (hBq.out.then (Nat.le_refl _) hB6)
          go_wp2
          go_ret2
          exact ⟨by rw [unbRV_some hv.out, ← hO'.out, ← ba_eq rfl]; rfl, hB7.out⟩
end Go.Proofs.YtdlhihfjigcimaaDoor
