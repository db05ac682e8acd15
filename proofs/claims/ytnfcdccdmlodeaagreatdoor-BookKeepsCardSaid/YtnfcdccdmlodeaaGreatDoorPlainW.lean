/- fetch.Plain: whether a header may be sent without asking. -/
import Derived.Test.YtnfcdccdmlodeaaGreatDoorPlainB
import Derived.Test.YtnfcdccdmlodeaaGreatDoorContains
import Derived.Test.YtnfcdccdmlodeaaGreatDoorSplit
import Derived.Test.YtnfcdccdmlodeaaGreatDoorFound
namespace Go.Proofs.YtnfcdccdmlodeaaGreatDoor
open Go.RowKit
theorem plain_long {n v : List UInt8} (h : 128 < v.length) : plainB n v = false := by unfold plainB; rw [if_pos h]
theorem plain_1 {n v : List UInt8} (h : ¬128 < v.length) (e : lower n = acceptL) : plainB n v = v.all safeB := by unfold plainB; rw [if_neg h, e]; rfl
theorem plain_2 {n v : List UInt8} (h : ¬128 < v.length) (e : lower n = acceptLangL) : plainB n v = tongues v := by unfold plainB tongues; rw [if_neg h, e]; rfl
theorem plain_3 {n v : List UInt8} (h : ¬128 < v.length) (e : lower n = contentLangL) : plainB n v = tongues v := by unfold plainB tongues; rw [if_neg h, e]; rfl
theorem plain_4 {n v : List UInt8} (h : ¬128 < v.length) (e : lower n = contentTypeL) : plainB n v = (v.all safeB && kindsL.contains (kindOf v)) := by unfold plainB; rw [if_neg h, e]; rfl
theorem plain_5 {n v : List UInt8} (h : ¬128 < v.length) (e1 : lower n ≠ acceptL) (e2 : lower n ≠ acceptLangL) (e3 : lower n ≠ contentLangL) (e4 : lower n ≠ contentTypeL) : plainB n v = false := by
  unfold plainB; rw [if_neg h]; simp [e1, e2, e3, e4]
theorem cut_fst (v : List UInt8) : ∃ b c, Lib.cut v [59] = (befL 59 v, b, c) ∧ b.length ≤ v.length := by
  cases h : v.contains 59
  · exact ⟨[], false, by rw [cut_no h, bef_no _ _ h], Nat.zero_le _⟩
  · exact ⟨_, true, cut_has h, by simp⟩
def kindsS : List ByteArray := [⟨#[97, 112, 112, 108, 105, 99, 97, 116, 105, 111, 110, 47, 120, 45, 119, 119, 119, 45, 102, 111, 114, 109, 45, 117, 114, 108, 101, 110, 99, 111, 100, 101, 100]⟩, ⟨#[109, 117, 108, 116, 105, 112, 97, 114, 116, 47, 102, 111, 114, 109, 45, 100, 97, 116, 97]⟩, ⟨#[116, 101, 120, 116, 47, 112, 108, 97, 105, 110]⟩]
theorem kinds_has (x : ByteArray) (l : List UInt8) (h : x.data.toList = l) : hasS kindsS x = kindsL.contains l := by
  unfold hasS kindsS kindsL
  simp only [List.any_cons, List.any_nil, List.contains_cons, List.contains_nil, Lib.toList_data, h]
abbrev pbox (n v : ByteArray) : Obj := .cells #[.string n, .string v] 77
set_option maxRecDepth 100000 in
set_option maxHeartbeats 4000000 in
theorem fetchPlain (n v : ByteArray) (w : World) (hM : MaxL w) (hn : n.size ≤ 1000000) (hv : v.size ≤ 1000000) :
    Calls Tryz.prog 120 #[.agg #[.string n, .string v]] w fun e w' => e = .returned (.bool (plainB n.data.toList v.data.toList)) ∧ Below w.heap.size w w' := by
  have hbox : Below w.heap.size w (w.alloc (pbox n v)) := (Below.refl _ _).alloc (Nat.le_refl _) _
  go_enter Tryz.func120, Tryz.ntmps120
  by_cases hl : 128 < v.size
  · have hr := Lib.hid (plain_long (n := n.data.toList) (v := v.data.toList) (by rw [← sz_len]; exact hl))
    go_wp2
    go_ret
    exact ⟨by rw [hr.out]; rfl, hbox⟩
  · have hl' := Lib.hid (show ¬128 < v.data.toList.length by rw [← sz_len]; exact hl)
    have hbox' := Lib.hid hbox
    clear hbox
    go_wp2
    go_loopw [3, 15] (fun b i wr => ∃ (k : Nat) (bb : Bool), k ≤ v.size ∧ i = .int .i64 k ∧ b = .bool bb ∧ Hid (bb = (v.data.toList.take k).all safeB) ∧ Below (w.heap.size + 1) (w.alloc (pbox n v)) wr) (fun _ i _ => v.size - (intOf i).toNat)
    case atStart => exact ⟨0, true, Nat.zero_le _, rfl, rfl, Lib.hid rfl, Below.refl _ _⟩
    case round =>
      obtain ⟨k, bb, hk, rfl, rfl, hbb, hBB⟩ := hrel
      have q0 := box_cell hBB 0 (v := .string n) rfl
      have q1 := box_cell hBB 1 (v := .string v) rfl
      by_cases hlt : k < v.size
      · have hl2 : k < v.data.toList.length := by rw [← sz_len]; exact hlt
        have hnext : (v.data.toList.take (k + 1)).all safeB = (bb && safeB v[k]) := by
          rw [List.take_succ_eq_append_getElem hl2, List.all_append, ← hbb.out, at_list v k hlt hl2]; simp
        have hun := fun w' => fetchUnsafe v[k] w'
        generalize hsc : safeB v[k] = sc at hnext hun
        have hn' := Lib.hid hnext.symm
        clear hsc hnext
        cases bb
        · go_wp2
          go_roundw
          case rel => exact ⟨k + 1, false, by omega, by go_num, rfl, Lib.hid (by rw [← hn'.out]; rfl), hBB⟩
          case measure => simp [intOf]; omega
        · go_wp2_with fail
          refine (hun _).mono ?_
          rintro e w1 ⟨rfl, rfl⟩
          go_wp2
          go_roundw
          case rel => exact ⟨k + 1, sc, by omega, by go_num, by simp, Lib.hid (by rw [← hn'.out]; rfl), hBB⟩
          case measure => simp [intOf]; omega
      · obtain rfl : v.size = k := by omega
        have hbf : Hid (bb = v.data.toList.all safeB) := Lib.hid (by rw [hbb.out, sz_len, List.take_length])
        have hlow := fun w' => codingLower n w' (by unfold maxLen; omega)
        obtain ⟨L, hL⟩ : ∃ L : ByteArray, L = ⟨(lower n.data.toList).toArray⟩ := ⟨_, rfl⟩
        rw [← hL] at hlow
        have hLl : L.toList = lower n.data.toList := by rw [hL, Lib.toList_data, mk_toList]
        have hBw := Lib.hid (below_box hBB)
        clear hL
        go_wp2_with fail
        refine (hlow _).mono ?_
        rintro e w1 ⟨rfl, hB1⟩
        have hBB1 := hBB.then (by simp) hB1
        have q1' := box_cell hBB1 1 (v := .string v) rfl
        have hB2 := Lib.hid (below_box hBB1)
        clear q0 q1 hlow
        by_cases c0 : lower n.data.toList = acceptL
        · have hr := Lib.hid (plain_1 hl'.out c0)
          have b0 : (L.toList == [97, 99, 99, 101, 112, 116]) = true := by rw [hLl, c0]; decide
          clear hLl c0
          go_wp2
          go_ret
          exact ⟨by rw [hr.out, ← hbf.out]; rfl, hB2.out⟩
        · by_cases c1 : lower n.data.toList = acceptLangL
          · have hr := Lib.hid (plain_2 hl'.out c1)
            have b0 : (L.toList == [97, 99, 99, 101, 112, 116]) = false := by rw [hLl, c1]; decide
            have b1 : (L.toList == [97, 99, 99, 101, 112, 116, 45, 108, 97, 110, 103, 117, 97, 103, 101]) = true := by rw [hLl, c1]; decide
            clear hLl c1
            go_wp2_with fail
            refine (fetchLanguage v _ (by unfold maxLen; omega)).mono ?_
            rintro e w2 ⟨rfl, rfl⟩
            go_wp2
            go_ret
            exact ⟨by rw [hr.out]; rfl, hB2.out⟩
          · by_cases c2 : lower n.data.toList = contentLangL
            · have hr := Lib.hid (plain_3 hl'.out c2)
              have b0 : (L.toList == [97, 99, 99, 101, 112, 116]) = false := by rw [hLl, c2]; decide
              have b1 : (L.toList == [97, 99, 99, 101, 112, 116, 45, 108, 97, 110, 103, 117, 97, 103, 101]) = false := by rw [hLl, c2]; decide
              have b2 : (L.toList == [99, 111, 110, 116, 101, 110, 116, 45, 108, 97, 110, 103, 117, 97, 103, 101]) = true := by rw [hLl, c2]; decide
              clear hLl c2
              go_wp2_with fail
              refine (fetchLanguage v _ (by unfold maxLen; omega)).mono ?_
              rintro e w2 ⟨rfl, rfl⟩
              go_wp2
              go_ret
              exact ⟨by rw [hr.out]; rfl, hB2.out⟩
            · by_cases c3 : lower n.data.toList = contentTypeL
              · have hr := Lib.hid (plain_4 hl'.out c3)
                have b0 : (L.toList == [97, 99, 99, 101, 112, 116]) = false := by rw [hLl, c3]; decide
                have b1 : (L.toList == [97, 99, 99, 101, 112, 116, 45, 108, 97, 110, 103, 117, 97, 103, 101]) = false := by rw [hLl, c3]; decide
                have b2 : (L.toList == [99, 111, 110, 116, 101, 110, 116, 45, 108, 97, 110, 103, 117, 97, 103, 101]) = false := by rw [hLl, c3]; decide
                have b3 : (L.toList == [99, 111, 110, 116, 101, 110, 116, 45, 116, 121, 112, 101]) = true := by rw [hLl, c3]; decide
                clear hLl c3
                obtain ⟨B, C, hcut, hBl⟩ := cut_fst v.data.toList
                obtain ⟨m, hm⟩ := (hM.later hB2.out)
                have hct := Tryz.strings_Cut v ⟨#[59]⟩ m w1 (by omega) hm
                rw [show (⟨#[59]⟩ : ByteArray).data.toList = [59] from rfl, hcut] at hct
                obtain ⟨K, hK⟩ : ∃ K : ByteArray, K = ⟨(befL 59 v.data.toList).toArray⟩ := ⟨_, rfl⟩
                obtain ⟨B', hB'⟩ : ∃ B' : ByteArray, B' = ⟨B.toArray⟩ := ⟨_, rfl⟩
                simp only [] at hct
                rw [← hK, ← hB'] at hct
                have hKl : K.data.toList = befL 59 v.data.toList := by rw [hK, mk_toList]
                have hKs : K.size ≤ 1000000 := by
                  have := befL_len 59 v.data.toList
                  rw [sz_len, hKl]; rw [← sz_len] at this; omega
                have htr := fun w' => stringsTrim K ⟨#[32, 9]⟩ w' (by omega) (by decide) blanks_ascii
                obtain ⟨T, hT⟩ : ∃ T : ByteArray, T = ⟨(Lib.trimS K.data.toList [32, 9]).toArray⟩ := ⟨_, rfl⟩
                rw [show (⟨#[32, 9]⟩ : ByteArray).data.toList = [32, 9] from rfl, ← hT] at htr
                have hTl : T.data.toList = Lib.trimS (befL 59 v.data.toList) [32, 9] := by rw [hT, mk_toList, hKl]
                have hTs : T.size ≤ 1000000 := by
                  have := trimS_len K.data.toList [32, 9]
                  rw [hKl] at this
                  rw [sz_len, hTl]; rw [← hKl, ← sz_len K] at this; rw [← hKl]; omega
                have hlw := fun w' => codingLower T w' (by unfold maxLen; omega)
                obtain ⟨Q, hQ⟩ : ∃ Q : ByteArray, Q = ⟨(lower T.data.toList).toArray⟩ := ⟨_, rfl⟩
                rw [← hQ] at hlw
                have hQl : Q.data.toList = kindOf v.data.toList := by rw [hQ, mk_toList, hTl]; rfl
                have hhas := Lib.hid (kinds_has Q _ hQl)
                have hC := fun b w' hA => containsS (some ⟨b, 0, none⟩) 3 kindsS Q w' hA (by decide)
                clear hcut hK hB' hT hQ hKl hTl hQl hm hBl
                go_wp2_with fail
                refine hct.mono ?_
                rintro e w2 ⟨rfl, nq, rfl⟩
                have hB3 := below_drewN hB2.out nq
                go_wp2_with fail
                refine (htr _).mono ?_
                rintro e w3 ⟨rfl, hB3'⟩
                have hB4 := hB3.then (Nat.le_refl _) hB3'
                go_wp2_with fail
                refine (hlw _).mono ?_
                rintro e w4 ⟨rfl, hB4'⟩
                have hB5 := hB4.then (Nat.le_refl _) hB4'
                have hB6 := hB5.alloc hB5.size (.cells (kindsS.map Value.string).toArray 9)
                have hA := pieces_at w4 kindsS
                clear hct htr hlw
                cases bb
                · go_wp2
                  go_ret
                  exact ⟨by rw [hr.out, ← hbf.out]; rfl, hB5⟩
                · go_wp2_with fail
                  refine (hC _ _ hA).mono ?_
                  rintro e w5 ⟨rfl, rfl⟩
                  go_wp2
                  go_ret
                  exact ⟨by rw [hr.out, ← hbf.out, hhas.out]; rfl, hB6⟩
              · have hr := Lib.hid (plain_5 hl'.out c0 c1 c2 c3)
                have b0 : (L.toList == [97, 99, 99, 101, 112, 116]) = false := by rw [hLl, beq_eq_false_iff_ne]; exact c0
                have b1 : (L.toList == [97, 99, 99, 101, 112, 116, 45, 108, 97, 110, 103, 117, 97, 103, 101]) = false := by rw [hLl, beq_eq_false_iff_ne]; exact c1
                have b2 : (L.toList == [99, 111, 110, 116, 101, 110, 116, 45, 108, 97, 110, 103, 117, 97, 103, 101]) = false := by rw [hLl, beq_eq_false_iff_ne]; exact c2
                have b3 : (L.toList == [99, 111, 110, 116, 101, 110, 116, 45, 116, 121, 112, 101]) = false := by rw [hLl, beq_eq_false_iff_ne]; exact c3
                clear hLl c0 c1 c2 c3
                go_wp2
                go_ret
                exact ⟨by rw [hr.out]; rfl, hB2.out⟩
end Go.Proofs.YtnfcdccdmlodeaaGreatDoor
