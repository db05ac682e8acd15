/- The reference's quoted, and its cursor's Quoted. -/
import Derived.Test.YtdpmhkineanloaaDoorCurR
import Derived.Test.YtdpmhkineanloaaDoorCurQ
namespace Go.Proofs.YtdpmhkineanloaaDoor
open Go.RowKit

/-- what quoted returns -/
def quotedRes (l : List UInt8) : Value := match quotedAt l 0 with
  | some x => .tuple #[.string ⟨x.1.toArray⟩, .int .i64 (x.2 : Int)]
  | none => .tuple #[.string ⟨#[]⟩, .int .i64 0]
theorem quotedRes_some {l : List UInt8} {x : List UInt8 × Nat} (h : quotedAt l 0 = some x) : quotedRes l = .tuple #[.string ⟨x.1.toArray⟩, .int .i64 (x.2 : Int)] := by unfold quotedRes; rw [h]
theorem quotedRes_none {l : List UInt8} (h : quotedAt l 0 = none) : quotedRes l = .tuple #[.string ⟨#[]⟩, .int .i64 0] := by unfold quotedRes; rw [h]
theorem ret2i {a b : ByteArray} {m n : Int} (h : a = b) (h' : m = n) : Ending.returned (.tuple #[.string a, .int .i64 m]) = .returned (.tuple #[.string b, .int .i64 n]) := by rw [h, h']

set_option maxRecDepth 100000 in
set_option maxHeartbeats 1000000 in
theorem refQuotedFn (s : ByteArray) (w : World) (hs : s.size ≤ 1099511627776) :
    Calls Tryd.prog 90 #[.string s] w fun e w' => e = .returned (quotedRes s.data.toList) ∧ w = w' := by
  by_cases h0 : s.size = 0
  · have hTl : s.data.toList = [] := List.length_eq_zero_iff.1 (by rw [← sz_len]; exact h0)
    have hTe : s.toList.isEmpty = true := by rw [Lib.toList_data, hTl]; rfl
    have hTl' := Lib.hid hTl
    clear h0 hTl
    go_enter Tryd.func90, Tryd.ntmps90
    go_wp2
    go_ret2
    exact ⟨by rw [quotedRes_none (by rw [hTl'.out]; rfl)]; rfl, rfl⟩
  have h0' : 0 < s.size := by omega
  have hTe : s.toList.isEmpty = false := by
    rw [Lib.toList_data]
    cases hl : s.data.toList with
    | nil => rw [sz_len, hl] at h0; exact absurd rfl h0
    | cons a l => rfl
  have hl0 : 0 < s.data.toList.length := by rw [← sz_len]; exact h0'
  have hbd0 := bd8 s[0]
  by_cases hq34 : s[0].toNat = 34
  · have b34 : (((s[0].toNat : Int)) == 34) = true := by rw [hq34]; rfl
    have b34' : (((s[0].toNat : Int)) != 34) = false := by simp [hq34]
    have hq : Hid (quotedAt s.data.toList 0 = (qgo (s.data.toList.drop 1) []).map (fun x => (x.1, s.data.toList.length - x.2))) := Lib.hid (quotedAt_go hl0 (by rw [at_list s 0 h0' hl0]; exact hq34))
    clear hq34 h0
    go_enter Tryd.func90, Tryd.ntmps90
    go_wp2
    go_loop [4, 5] (fun o i => ∃ (j : Nat) (S : ByteArray), j ≤ s.size ∧ i = .int .i64 j ∧ o = .string S ∧ S.size ≤ j ∧ Hid (qgo (s.data.toList.drop 1) [] = qgo (s.data.toList.drop j) S.data.toList)) (fun _ i => s.size - (intOf i).toNat)
    case atStart => exact ⟨1, ⟨#[]⟩, h0', rfl, rfl, Nat.zero_le _, Lib.hid rfl⟩
    case round =>
      obtain ⟨j, S, hj, rfl, rfl, hSj, hinv⟩ := hrel
      by_cases hlt : j < s.size
      · have hl : j < s.data.toList.length := by rw [← sz_len]; exact hlt
        have hdrop := Lib.hid (drop_cons s j hlt)
        have hbd := bd8 s[j]
        by_cases h34 : s[j].toNat = 34
        · have c34 : (((s[j].toNat : Int)) == 34) = true := by rw [h34]; rfl
          have hfin : Hid (quotedAt s.data.toList 0 = some (S.data.toList, j + 1)) := Lib.hid (by
            rw [hq.out, hinv.out, hdrop.out, qgo_mark _ _ h34]; simp only [Option.map_some, List.length_drop, ← sz_len]; congr 2; omega)
          clear h34
          go_wp2_with (go_at_call 132; refine (refTextByte _ _).mono ?_; rintro e w' ⟨rfl, rfl⟩)
          go_ret2
          exact ⟨by rw [quotedRes_some hfin.out]; rfl, rfl⟩
        · have c34 : (((s[j].toNat : Int)) == 34) = false := by rw [beq_eq_false_iff_ne]; omega
          have h34' := Lib.hid h34
          clear h34
          by_cases h92 : s[j].toNat = 92
          · have c92 : (((s[j].toNat : Int)) == 92) = true := by rw [h92]; rfl
            have h92' := Lib.hid h92
            clear h92
            by_cases hlt1 : j + 1 < s.size
            · have hl1 : j + 1 < s.data.toList.length := by rw [← sz_len]; exact hlt1
              have hdrop1 := Lib.hid (drop_cons s (j + 1) hlt1)
              have hbd1 := bd8 s[j + 1]
              have hi0 : (0 : Int) ≤ (j : Int) + 1 := by omega
              have hi1 : ((j : Int) + 1).toNat = j + 1 := by omega
              have hi2 : (j : Int) + 1 < (s.size : Int) := by omega
              have hi3 : (((j : Int) + 1) == (s.size : Int)) = false := by rw [beq_eq_false_iff_ne]; omega
              cases hx : textB s[j + 1]
              · have hfin : Hid (quotedAt s.data.toList 0 = none) := Lib.hid (by rw [hq.out, hinv.out, hdrop.out, hdrop1.out, qgo_esc_no _ _ h92'.out hx]; rfl)
                go_wp2_with (go_at_call 132; refine (refTextByte _ _).mono ?_; rintro e w' ⟨rfl, rfl⟩)
                go_ret2
                exact ⟨by rw [quotedRes_none hfin.out]; rfl, rfl⟩
              · have hx1 : Hid ((s.extract (j + 1) (j + 2)).data.toList = [s[j + 1]]) := Lib.hid (by
                  rw [Lib.extract_data, List.drop_eq_getElem_cons hl1, at_list s (j + 1) hlt1 hl1, show j + 2 - (j + 1) = 1 by omega]; rfl)
                have hxs : (s.extract (j + 1) (j + 2)).size ≤ 1 := by rw [sz_len, hx1.out]; exact Nat.le_refl _
                have hadd := fun w' => run_string_add_sum (P := Tryd.prog) w' S (s.extract (j + 1) (j + 2)) (by omega)
                go_wp2_with (go_at_call 132; refine (refTextByte _ _).mono ?_; rintro e w' ⟨rfl, rfl⟩)
                go_round
                case rel => exact ⟨j + 2, S ++ s.extract (j + 1) (j + 2), by omega, by go_num, rfl, by rw [add_size]; omega, Lib.hid (by rw [hinv.out, hdrop.out, hdrop1.out, qgo_esc _ _ h92'.out hx, add_toList, hx1.out])⟩
                case measure => simp [intOf]; omega
            · have hi3 : (((j : Int) + 1) == (s.size : Int)) = true := by rw [beq_iff_eq]; omega
              have hfin : Hid (quotedAt s.data.toList 0 = none) := Lib.hid (by
                rw [hq.out, hinv.out, hdrop.out, List.drop_eq_nil_of_le (by rw [← sz_len]; omega), qgo_back _ h92'.out]; rfl)
              go_wp2_with (go_at_call 132; refine (refTextByte _ _).mono ?_; rintro e w' ⟨rfl, rfl⟩)
              go_ret2
              exact ⟨by rw [quotedRes_none hfin.out]; rfl, rfl⟩
          · have c92 : (((s[j].toNat : Int)) == 92) = false := by rw [beq_eq_false_iff_ne]; omega
            have h92' := Lib.hid h92
            clear h92
            cases hx : textB s[j]
            · have hfin : Hid (quotedAt s.data.toList 0 = none) := Lib.hid (by rw [hq.out, hinv.out, hdrop.out, qgo_no _ _ h34'.out h92'.out hx]; rfl)
              go_wp2_with (go_at_call 132; refine (refTextByte _ _).mono ?_; rintro e w' ⟨rfl, rfl⟩)
              go_ret2
              exact ⟨by rw [quotedRes_none hfin.out]; rfl, rfl⟩
            · have hx1 : Hid ((s.extract j (j + 1)).data.toList = [s[j]]) := Lib.hid (by
                rw [Lib.extract_data, List.drop_eq_getElem_cons hl, at_list s j hlt hl, show j + 1 - j = 1 by omega]; rfl)
              have hxs : (s.extract j (j + 1)).size ≤ 1 := by rw [sz_len, hx1.out]; exact Nat.le_refl _
              have hadd := fun w' => run_string_add_sum (P := Tryd.prog) w' S (s.extract j (j + 1)) (by omega)
              go_wp2_with (go_at_call 132; refine (refTextByte _ _).mono ?_; rintro e w' ⟨rfl, rfl⟩)
              go_round
              case rel => exact ⟨j + 1, S ++ s.extract j (j + 1), by omega, by go_num, rfl, by rw [add_size]; omega, Lib.hid (by rw [hinv.out, hdrop.out, qgo_text _ _ h34'.out h92'.out hx, add_toList, hx1.out])⟩
              case measure => simp [intOf]; omega
      · have hfin : Hid (quotedAt s.data.toList 0 = none) := Lib.hid (by rw [hq.out, hinv.out, List.drop_eq_nil_of_le (by rw [← sz_len]; omega)]; rfl)
        go_wp2
        go_ret2
        exact ⟨by rw [quotedRes_none hfin.out]; rfl, rfl⟩
  · have b34' : (((s[0].toNat : Int)) != 34) = true := by simp; omega
    have hfin : Hid (quotedAt s.data.toList 0 = none) := Lib.hid (quotedAt_no hl0 (by rw [at_list s 0 h0' hl0]; exact hq34))
    clear hq34 h0
    go_enter Tryd.func90, Tryd.ntmps90
    go_wp2
    go_ret2
    exact ⟨by rw [quotedRes_none hfin.out]; rfl, rfl⟩

theorem quotedAt_shift (l : List UInt8) (k : Nat) (hk : k ≤ l.length) : quotedAt l k = (quotedAt (l.drop k) 0).map (fun x => (x.1, k + x.2)) := by
  unfold quotedAt
  rw [List.drop_zero]
  cases hd : l.drop k with
  | nil => rfl
  | cons c r =>
    have hlen := congrArg List.length hd
    rw [List.length_drop, List.length_cons] at hlen
    simp only
    split
    · cases hg : qgo r [] with
      | none => rfl
      | some x =>
        have := qgo_len _ _ _ _ (Nat.le_refl _) hg
        simp only [Option.map_some, List.length_cons]
        congr 2
        omega
    · rfl
set_option maxRecDepth 100000 in
theorem refQuoted (w : World) (p : Nat) (s : ByteArray) (k : Nat) (h : CurAt tR w p s k) (hs : s.size ≤ 1099511627776) (hk : k ≤ s.size) :
    Calls Tryd.prog 29 #[.pointer (some ⟨p, 0, none⟩)] w (QPost tR w p s k) := by
  have c0 := h.c0
  have c1 := h.c1
  have f1 := h.f1
  have hkk : (k : Int) ≤ (s.size : Int) := by omega
  have hes : (s.extract k s.size).size ≤ s.size := by rw [sz_len, Lib.extract_to_end, List.length_drop, ← sz_len]; omega
  have hr := fun w' => refQuotedFn (s.extract k s.size) w' (by omega)
  rw [Lib.extract_to_end] at hr
  have hsh := quotedAt_shift s.data.toList k (by rw [← sz_len]; exact hk)
  cases hq : quotedAt (s.data.toList.drop k) 0 with
  | none =>
    rw [quotedRes_none hq] at hr
    rw [hq] at hsh
    have hsh' := Lib.hid hsh
    clear hq hsh hes
    go_enter Tryd.func29, Tryd.ntmps29
    go_wp2
    go_quiet ((go_at_call 90; exact quiet_left' (hr _)))
    go_wp2
    go_ret2
    exact QPost.none hsh'.out ⟨rfl, (h.drewN _).put k, only_setCell (only_drewN (only_refl _ _) _) (.inl rfl) _⟩
  | some x =>
    have hbd := quotedAt_bd hq
    rw [List.length_drop, ← sz_len] at hbd
    obtain ⟨_, hb1, hb2⟩ := hbd
    rw [quotedRes_some hq] at hr
    rw [hq] at hsh
    have hsh' := Lib.hid hsh
    clear hq hsh hes
    obtain ⟨t, m⟩ := x
    simp only at hb1 hb2 hr
    go_enter Tryd.func29, Tryd.ntmps29
    go_wp2
    go_quiet ((go_at_call 90; exact quiet_left' (hr _)))
    go_wp2
    go_ret2
    exact QPost.some hsh'.out ⟨rfl, (h.drewN _).put (k + m), only_setCell (only_drewN (only_refl _ _) _) (.inl rfl) _⟩
end Go.Proofs.YtdpmhkineanloaaDoor
