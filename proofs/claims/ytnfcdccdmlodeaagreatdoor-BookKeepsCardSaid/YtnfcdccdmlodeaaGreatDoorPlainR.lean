/- The reference's Plain: whether a header may be sent without asking. -/
import Derived.Test.YtnfcdccdmlodeaaGreatDoorPlainW
namespace Go.Proofs.YtnfcdccdmlodeaaGreatDoor
open Go.RowKit
theorem tongue_iff (c : UInt8) : (tongueB c = true) ↔ ((48 : Int) ≤ (c.toNat : Int) ∧ (c.toNat : Int) ≤ 57 ∨ (97 : Int) ≤ (c.toNat : Int) ∧ (c.toNat : Int) ≤ 122 ∨ (65 : Int) ≤ (c.toNat : Int) ∧ (c.toNat : Int) ≤ 90 ∨ 0 ≤ Lib.indexByte marks4 c) := by
  unfold tongueB
  simp only [decide_eq_true_iff]
  omega
theorem pieces_first (c : UInt8) (s : ByteArray) : ∃ x r, pieces c s = x :: r ∧ x.data.toList = befL c s.data.toList := by
  have h := pieces_datas c s
  cases hp : pieces c s with
  | nil => rw [hp] at h; exact absurd h.symm (cutL_ne c _)
  | cons x r =>
    refine ⟨x, r, rfl, ?_⟩
    rw [hp] at h
    simp only [datas, List.map_cons] at h
    have hb : ∀ l : List UInt8, ∃ t, cutL c l = befL c l :: t := by
      intro l
      induction l with
      | nil => exact ⟨[], rfl⟩
      | cons a l ih =>
        by_cases ha : a = c
        · subst ha; exact ⟨cutL a l, by rw [cutL_hit, befL_hit]⟩
        · obtain ⟨t, ht⟩ := ih
          obtain ⟨p, r', h1, h2⟩ := cutL_skip ha l
          rw [ht] at h1; cases h1
          exact ⟨t, by rw [h2, befL_skip ha]⟩
    obtain ⟨t, ht⟩ := hb s.data.toList
    rw [ht] at h
    exact (List.cons.inj h).1
set_option maxRecDepth 100000 in
set_option maxHeartbeats 8000000 in
theorem refPlain (n v : ByteArray) (w : World) (hM : MaxL w) (hn : n.size ≤ 1000000) (hv : v.size ≤ 1000000) :
    Calls Tryz.prog 125 #[.agg #[.string n, .string v]] w fun e w' => e = .returned (.bool (plainB n.data.toList v.data.toList)) ∧ Below w.heap.size w w' := by
  have hbox : Below w.heap.size w (w.alloc (pbox n v)) := (Below.refl _ _).alloc (Nat.le_refl _) _
  go_enter Tryz.func125, Tryz.ntmps125
  by_cases hl : 128 < v.size
  · have hr := Lib.hid (plain_long (n := n.data.toList) (v := v.data.toList) (by rw [← sz_len]; exact hl))
    go_wp2
    go_ret
    exact ⟨by rw [hr.out]; rfl, hbox⟩
  · have hl' := Lib.hid (show ¬128 < v.data.toList.length by rw [← sz_len]; exact hl)
    have hbox' := Lib.hid hbox
    clear hbox
    go_wp2
    go_loopw [3, 4, 16] (fun b t i wr => ∃ (k : Nat) (bb tt : Bool), k ≤ v.size ∧ i = .int .i64 k ∧ b = .bool bb ∧ t = .bool tt ∧ Hid (bb = (v.data.toList.take k).all safeB) ∧ Hid (tt = (v.data.toList.take k).all tongueB) ∧ Below (w.heap.size + 1) (w.alloc (pbox n v)) wr) (fun _ _ i _ => v.size - (intOf i).toNat)
    case atStart => exact ⟨0, true, true, Nat.zero_le _, rfl, rfl, rfl, Lib.hid rfl, Lib.hid rfl, Below.refl _ _⟩
    case round =>
      obtain ⟨k, bb, tt, hk, rfl, rfl, rfl, hbb, htt, hBB⟩ := hrel
      have q0 := box_cell hBB 0 (v := .string n) rfl
      have q1 := box_cell hBB 1 (v := .string v) rfl
      by_cases hlt : k < v.size
      · have hl2 : k < v.data.toList.length := by rw [← sz_len]; exact hlt
        have hnS : (v.data.toList.take (k + 1)).all safeB = (bb && (textB v[k] && decide (Lib.indexByte marks3 v[k] < 0))) := by
          rw [List.take_succ_eq_append_getElem hl2, List.all_append, ← hbb.out, at_list v k hlt hl2]; simp [safeB]
        have hnT : (v.data.toList.take (k + 1)).all tongueB = (tt && tongueB v[k]) := by
          rw [List.take_succ_eq_append_getElem hl2, List.all_append, ← htt.out, at_list v k hlt hl2]; simp
        have htb := fun w' => refTextByte v[k] w'
        have hi3 := fun w' => Tryz.strings_IndexByte ⟨marks3.toArray⟩ (v[k].toNat : Int) w'
        have hi4 := fun w' => Tryz.strings_IndexByte ⟨marks4.toArray⟩ (v[k].toNat : Int) w'
        rw [mk_toList, u8_back] at hi3 hi4
        have hti := tongue_iff v[k]
        have hbd := bd8 v[k]
        generalize Lib.indexByte marks3 v[k] = ix3 at hi3 hnS
        generalize Lib.indexByte marks4 v[k] = ix4 at hi4 hti
        generalize textB v[k] = tb at htb hnS
        generalize tongueB v[k] = tc at hnT hti
        have hS' := Lib.hid hnS.symm
        have hT' := Lib.hid hnT.symm
        have hti' := Lib.hid hti
        clear hnS hnT hti
        cases bb <;> cases tt <;> cases tb
        all_goals
          go_wp2_with (first
            | (go_at_call 206; refine (htb _).mono ?_; rintro e w' ⟨rfl, rfl⟩)
            | (go_at_call 130; refine (hi3 _).mono ?_; rintro e w' ⟨rfl, rfl⟩)
            | (go_at_call 130; refine (hi4 _).mono ?_; rintro e w' ⟨rfl, rfl⟩)
            | (go_at_call 72; refine (within_any _ _ _ _).mono ?_; rintro e w' ⟨rfl, rfl⟩))
        all_goals
          go_roundw
          case rel =>
            refine ⟨k + 1, _, _, by omega, by go_num, rfl, rfl, Lib.hid (Eq.trans ?_ hS'.out), Lib.hid (Eq.trans ?_ hT'.out), hBB⟩
            · simp
            · have hh := hti'.out
              rw [Bool.eq_iff_iff]
              simp only [Bool.true_and, Bool.false_and, hh]
              first | done | (simp; done) | (simp; omega) | omega
          case measure => simp [intOf]; omega
      · obtain rfl : v.size = k := by omega
        have hbf : Hid (bb = v.data.toList.all safeB) := Lib.hid (by rw [hbb.out, sz_len, List.take_length])
        have htf : Hid (tt = tongues v.data.toList) := Lib.hid (by unfold tongues; rw [htt.out, sz_len, List.take_length])
        have hlow := fun w' => refLower n w' (by unfold maxLen; omega)
        obtain ⟨L, hL⟩ : ∃ L : ByteArray, L = ⟨(lower n.data.toList).toArray⟩ := ⟨_, rfl⟩
        rw [← hL] at hlow
        have hLl : L.toList = lower n.data.toList := by rw [hL, Lib.toList_data, mk_toList]
        have hBw := Lib.hid (below_box hBB)
        clear hL
        go_wp2_with fail
        refine (hlow _).mono ?_
        rintro e w1 ⟨rfl, hB1⟩
        have hBB1 := hBB.then (by simp) hB1
        have q1' := box_cell hBB1 1 (v := .string v) rfl
        have hB2 := Lib.hid (below_box hBB1)
        clear q0 q1 hlow
        by_cases c0 : lower n.data.toList = acceptL
        · have hr := Lib.hid (plain_1 hl'.out c0)
          have b0 : (L.toList == [97, 99, 99, 101, 112, 116]) = true := by rw [hLl, c0]; decide
          clear hLl c0
          go_wp2
          go_ret
          exact ⟨by rw [hr.out, ← hbf.out]; rfl, hB2.out⟩
        · by_cases c1 : lower n.data.toList = acceptLangL
          · have hr := Lib.hid (plain_2 hl'.out c1)
            have b0 : (L.toList == [97, 99, 99, 101, 112, 116]) = false := by rw [hLl, c1]; decide
            have b1 : (L.toList == [97, 99, 99, 101, 112, 116, 45, 108, 97, 110, 103, 117, 97, 103, 101]) = true := by rw [hLl, c1]; decide
            clear hLl c1
            go_wp2
            go_ret
            exact ⟨by rw [hr.out, ← htf.out]; rfl, hB2.out⟩
          · by_cases c2 : lower n.data.toList = contentLangL
            · have hr := Lib.hid (plain_3 hl'.out c2)
              have b0 : (L.toList == [97, 99, 99, 101, 112, 116]) = false := by rw [hLl, c2]; decide
              have b1 : (L.toList == [97, 99, 99, 101, 112, 116, 45, 108, 97, 110, 103, 117, 97, 103, 101]) = false := by rw [hLl, c2]; decide
              have b2 : (L.toList == [99, 111, 110, 116, 101, 110, 116, 45, 108, 97, 110, 103, 117, 97, 103, 101]) = true := by rw [hLl, c2]; decide
              clear hLl c2
              go_wp2
              go_ret
              exact ⟨by rw [hr.out, ← htf.out]; rfl, hB2.out⟩
            · by_cases c3 : lower n.data.toList = contentTypeL
              · have hr := Lib.hid (plain_4 hl'.out c3)
                have b0 : (L.toList == [97, 99, 99, 101, 112, 116]) = false := by rw [hLl, c3]; decide
                have b1 : (L.toList == [97, 99, 99, 101, 112, 116, 45, 108, 97, 110, 103, 117, 97, 103, 101]) = false := by rw [hLl, c3]; decide
                have b2 : (L.toList == [99, 111, 110, 116, 101, 110, 116, 45, 108, 97, 110, 103, 117, 97, 103, 101]) = false := by rw [hLl, c3]; decide
                have b3 : (L.toList == [99, 111, 110, 116, 101, 110, 116, 45, 116, 121, 112, 101]) = true := by rw [hLl, c3]; decide
                clear hLl c3
                obtain ⟨K, rr, hpc, hKl⟩ := pieces_first 59 v
                have hsp := stringsSplit 59 v w1 (hM.later hB2.out) hv
                have hP := pieces_at w1 (pieces 59 v)
                have hlen : 0 < (pieces 59 v).length := by rw [hpc]; simp
                obtain ⟨b0, o0, hbo, hc0⟩ := hP 0 hlen
                cases hbo
                have hKe : (pieces 59 v)[0] = K := by simp [hpc]
                rw [hKe] at hc0
                obtain ⟨np, hnp⟩ : ∃ np : Nat, np = (pieces 59 v).length := ⟨_, rfl⟩
                have hnp0 : 0 < np := by rw [hnp]; exact hlen
                have hnp1 : np ≤ 1000001 := by have := pieces_le 59 v; omega
                have hspB := Lib.hid ((Below.refl w1.heap.size w1).alloc (Nat.le_refl _) (.cells ((pieces 59 v).map Value.string).toArray 9))
                rw [← hnp] at hsp
                have hKs : K.size ≤ 1000000 := by
                  have := befL_len 59 v.data.toList
                  rw [sz_len, hKl]; rw [← sz_len] at this; omega
                have htr := fun w' => stringsTrim K ⟨#[32, 9]⟩ w' (by omega) (by decide) blanks_ascii
                obtain ⟨T, hT⟩ : ∃ T : ByteArray, T = ⟨(Lib.trimS K.data.toList [32, 9]).toArray⟩ := ⟨_, rfl⟩
                rw [show (⟨#[32, 9]⟩ : ByteArray).data.toList = [32, 9] from rfl, ← hT] at htr
                have hTl : T.data.toList = Lib.trimS (befL 59 v.data.toList) [32, 9] := by rw [hT, mk_toList, hKl]
                have hTs : T.size ≤ 1000000 := by
                  have := trimS_len K.data.toList [32, 9]
                  rw [hKl] at this
                  rw [sz_len, hTl]; rw [← hKl, ← sz_len K] at this; rw [← hKl]; omega
                have hlw := fun w' => refLower T w' (by unfold maxLen; omega)
                obtain ⟨Q, hQ⟩ : ∃ Q : ByteArray, Q = ⟨(lower T.data.toList).toArray⟩ := ⟨_, rfl⟩
                rw [← hQ] at hlw
                have hQl : Q.data.toList = kindOf v.data.toList := by rw [hQ, mk_toList, hTl]; rfl
                have hk3 : kindsL.contains (kindOf v.data.toList) = ((Q.toList == [97, 112, 112, 108, 105, 99, 97, 116, 105, 111, 110, 47, 120, 45, 119, 119, 119, 45, 102, 111, 114, 109, 45, 117, 114, 108, 101, 110, 99, 111, 100, 101, 100]) || ((Q.toList == [109, 117, 108, 116, 105, 112, 97, 114, 116, 47, 102, 111, 114, 109, 45, 100, 97, 116, 97]) || (Q.toList == [116, 101, 120, 116, 47, 112, 108, 97, 105, 110]))) := by
                  rw [Lib.toList_data, hQl]; unfold kindsL
                  simp only [List.contains_cons, List.contains_nil, Bool.or_false]
                have hk3' := Lib.hid hk3
                clear hpc hP hlen hKe hT hQ hKl hTl hQl hk3 hnp
                go_wp2_with fail
                refine hsp.mono ?_
                rintro e w2 ⟨rfl, hw2⟩
                have hB12 : Below w1.heap.size w1 w2 := by rw [← hw2]; exact hspB.out
                have hB3 := hB2.out.then (Nat.le_refl _) hB12
                have hc1 := hc0
                rw [hw2] at hc1
                have q0' : w2.cell? ⟨w.heap.size, 1, none⟩ = some (.string v) := (hB12.cell (p := ⟨w.heap.size, 1, none⟩) (World.block_lt_of_cell? w1 _ q1')).trans q1'
                clear hw2 hc0 hsp hB12 q1'
                go_wp2_with fail
                refine (htr _).mono ?_
                rintro e w3 ⟨rfl, hB3'⟩
                have hB4 := hB3.then (Nat.le_refl _) hB3'
                go_wp2_with fail
                refine (hlw _).mono ?_
                rintro e w4 ⟨rfl, hB4'⟩
                have hB5 := hB4.then (Nat.le_refl _) hB4'
                cases bb <;> cases e0 : (Q.toList == [97, 112, 112, 108, 105, 99, 97, 116, 105, 111, 110, 47, 120, 45, 119, 119, 119, 45, 102, 111, 114, 109, 45, 117, 114, 108, 101, 110, 99, 111, 100, 101, 100]) <;> cases e1 : (Q.toList == [109, 117, 108, 116, 105, 112, 97, 114, 116, 47, 102, 111, 114, 109, 45, 100, 97, 116, 97]) <;> cases e2 : (Q.toList == [116, 101, 120, 116, 47, 112, 108, 97, 105, 110])
                all_goals
                  have E := Lib.hid (And.intro e0 (And.intro e1 e2))
                  go_wp2
                  go_ret
                  exact ⟨by rw [hr.out, ← hbf.out, hk3'.out, E.out.1, E.out.2.1, E.out.2.2]; rfl, hB5⟩
              · have hr := Lib.hid (plain_5 hl'.out c0 c1 c2 c3)
                have b0 : (L.toList == [97, 99, 99, 101, 112, 116]) = false := by rw [hLl, beq_eq_false_iff_ne]; exact c0
                have b1 : (L.toList == [97, 99, 99, 101, 112, 116, 45, 108, 97, 110, 103, 117, 97, 103, 101]) = false := by rw [hLl, beq_eq_false_iff_ne]; exact c1
                have b2 : (L.toList == [99, 111, 110, 116, 101, 110, 116, 45, 108, 97, 110, 103, 117, 97, 103, 101]) = false := by rw [hLl, beq_eq_false_iff_ne]; exact c2
                have b3 : (L.toList == [99, 111, 110, 116, 101, 110, 116, 45, 116, 121, 112, 101]) = false := by rw [hLl, beq_eq_false_iff_ne]; exact c3
                clear hLl c0 c1 c2 c3
                go_wp2
                go_ret
                exact ⟨by rw [hr.out]; rfl, hB2.out⟩
end Go.Proofs.YtnfcdccdmlodeaaGreatDoor
