/- The reference's UrlParse. -/
import Derived.Test.YthmkilglidfdiaaGreatDoorUrlXL
namespace Go.Proofs.YthmkilglidfdiaaGreatDoor
open Go.RowKit
set_option maxRecDepth 100000 in
set_option maxHeartbeats 4000000 in
set_option linter.unusedVariables false in
theorem refUrlParse (s : ByteArray) (w : World) (hM : MaxL w) (hs : s.size ≤ 1000000) :
    Calls Tryz.prog 4 #[.string s] w fun e w' => e = .returned (urlV (urlParseP s.data.toList) (.int .i64 0) (fun x => .int .i64 x)) ∧ Below w.heap.size w w' := by
  have hZ := Lib.hid (ZU.start w)
  have hsl : s.data.toList.length ≤ 1000000 := by rw [← sz_len]; exact hs
  go_enter Tryz.func4, Tryz.ntmps4
  by_cases h3 : 3000 < s.size
  · have hv := Lib.hid (show urlParseP s.data.toList = .error 4 by unfold urlParseP; rw [if_pos (by rw [← sz_len]; exact h3)])
    have d0 := hZ.out.d0
    have d1 := hZ.out.d1
    have d2 := hZ.out.d2
    have d3 := hZ.out.d3
    have d4 := hZ.out.d4
    have f0 := hZ.out.f 0
    have f1 := hZ.out.f 1
    have f2 := hZ.out.f 2
    have f3 := hZ.out.f 3
    have f4 := hZ.out.f 4
    go_wp2
    refine bodyPost_ret (v := .tuple #[.agg #[.bool false, .string ⟨#[]⟩, .int .i64 0, .string ⟨#[]⟩, .string ⟨#[]⟩], .int .i64 4]) (by simp [results, Tryz.results4, go_sem, d0, d1, d2, d3, d4]; try rfl) rfl ⟨by rw [urlV_error hv.out], hZ.out.low⟩
  · have hv := Lib.hid (show urlParseP s.data.toList = urlTR (befL 35 s.data.toList) by unfold urlParseP; rw [if_neg (by rw [← sz_len]; exact h3), url_same])
    have hsp := stringsSplit 35 s _ (hM.later hZ.out.low) hs
    go_wp2_with fail
    refine hsp.mono ?_
    clear hsp
    rintro e w1 ⟨rfl, hw1⟩
    have hP : StrAt w1 (some ⟨w.heap.size + 1, 0, none⟩) (pieces 35 s) := by rw [← hw1]; simpa using pieces_at (w.alloc (Obj.cells #[.bool false, .string ⟨#[]⟩, .int .i64 0, .string ⟨#[]⟩, .string ⟨#[]⟩] 25)) (pieces 35 s)
    have hZ1 : Hid (ZU w w1) := Lib.hid (by rw [← hw1]; exact hZ.out.box _)
    clear hw1
    have hpl : 0 < (pieces 35 s).length := by rw [pieces_len]; omega
    obtain ⟨b, off, hbo, hc⟩ := hP 0 hpl
    cases hbo
    have hx0 := pieces_head 35 s hpl
    have hxs := pieces_sz 35 s _ (List.getElem_mem hpl)
    rw [Nat.zero_add] at hc
    generalize (pieces 35 s)[0] = x at hc hxs hx0
    rw [← hx0] at hv
    obtain ⟨q, hq, hq0⟩ : ∃ q, (pieces 35 s).length = q ∧ 0 < q := ⟨_, rfl, hpl⟩
    rw [hq]
    clear hP hpl hx0 hq
    obtain ⟨m, hm⟩ := hM.later hZ1.out.low
    have hix := Tryz.strings_Index x (⟨#[58, 47, 47]⟩ : ByteArray) m _ (by omega) hm
    rw [show ((⟨#[58, 47, 47]⟩ : ByteArray) : ByteArray).data.toList = [58, 47, 47] from rfl] at hix
    clear hm
    have hxl : x.data.toList.length ≤ 1000000 := by rw [← sz_len]; omega
    rcases Lib.index_spec x.data.toList [58, 47, 47] with ⟨hi, _⟩ | ⟨i, hi, hil, hio, _⟩
    · rw [hi] at hix
      have hv2 := Lib.hid (show urlParseP s.data.toList = .error 3 by rw [hv.out]; unfold urlTR; rw [hi, if_pos (by decide)])
      clear hi
      go_wp2_with fail
      refine hix.mono ?_
      rintro e w2 ⟨rfl, rfl⟩
      have d0 := hZ1.out.d0
      have d1 := hZ1.out.d1
      have d2 := hZ1.out.d2
      have d3 := hZ1.out.d3
      have d4 := hZ1.out.d4
      have f0 := hZ1.out.f 0
      have f1 := hZ1.out.f 1
      have f2 := hZ1.out.f 2
      have f3 := hZ1.out.f 3
      have f4 := hZ1.out.f 4
      go_wp2
      obtain ⟨e0, e1, e2, e3, e4⟩ := set_5 (.bool false) (.string ⟨#[]⟩) (.int .i64 0) (.string ⟨#[]⟩) (.string ⟨#[]⟩) d0 d1 d2 d3 d4
      refine bodyPost_ret (v := .tuple #[.agg #[.bool false, .string ⟨#[]⟩, .int .i64 0, .string ⟨#[]⟩, .string ⟨#[]⟩], .int .i64 3]) (by simp [results, Tryz.results4, go_sem, e0, e1, e2, e3, e4]; try rfl) rfl ⟨by rw [urlV_error hv2.out], below_set5 hZ1.out.low (Nat.le_refl _)⟩
    · rw [hi] at hix
      have hi3 : i + 3 ≤ x.size := by
        rw [sz_len]
        rcases Lib.occAt_room hio with h | h
        · exact h
        · cases h
      have hv2 := Lib.hid (hv.out.trans (urlTR_at hi))
      clear hi hv hil hio
      obtain ⟨r, hr⟩ : ∃ r, x.data.toList.drop (i + 3) = r := ⟨_, rfl⟩
      have hrl : r.length = x.size - (i + 3) := by rw [← hr, List.length_drop, ← sz_len]
      have hrx : ∀ j k, i + 3 + j = k → ∀ (hj : j < r.length) (hx : k < x.size), r[j] = x[k] := by
        intro j k hk hj hx
        subst hk
        rw [← at_list x (i + 3 + j) hx (by rw [← sz_len]; exact hx)]
        subst hr
        rw [List.getElem_drop]
      rw [hr] at hv2
      have hrh := Lib.hid hr
      have hal := atL_le r
      clear hr
      go_wp2_with fail
      refine hix.mono ?_
      rintro e w2 ⟨rfl, rfl⟩
      go_wp2
      go_loopw [5] (fun v wr => ∃ j : Nat, j ≤ atL r ∧ v = .int .i64 ((i + 3 + j : Nat) : Int) ∧ wr = w2) (fun v _ => x.size + 1 - (intOf v).toNat)
      case atStart => exact ⟨0, Nat.zero_le _, by congr 1, rfl⟩
      case round =>
        obtain ⟨j, hj, rfl, rfl⟩ := hrel
        obtain ⟨k, hk⟩ : ∃ k : Nat, i + 3 + j = k := ⟨_, rfl⟩
        rw [hk]
        by_cases hjl : j < atL r
        · obtain ⟨hjr, n1, n2⟩ := atL_go hjl
          have hkx : k < x.size := by omega
          rw [hrx j k hk hjr hkx] at n1 n2
          rw [← u8eq _ 47 47 rfl] at n1
          rw [← u8eq _ 63 63 rfl] at n2
          have m1 : (((x[k].toNat : Nat) : Int) != 47) = true := by rw [bne, n1]; rfl
          have m2 : (((x[k].toNat : Nat) : Int) != 63) = true := by rw [bne, n2]; rfl
          clear n1 n2
          have hkh := Lib.hid hk
          clear hrx hk
          go_wp2
          go_roundw
          case rel => exact ⟨j + 1, hjl, by rw [← hkh.out]; congr 1, by trivial⟩
          case measure => have := hkh.out; simp [intOf]; omega
        · obtain rfl : j = atL r := by omega
          have hv3 := Lib.hid (show urlParseP s.data.toList = joinO (originP (x.data.toList.take k)) (restL (x.data.toList.drop k)) by rw [← hk]; exact hv2.out)
          have hkx : k ≤ x.size := by omega
          have hlast : k < x.size → (∃ h : k < x.size, (((x[k].toNat : Nat) : Int) != 47) = false) ∨ (∃ h : k < x.size, (((x[k].toNat : Nat) : Int) != 47) = true ∧ (((x[k].toNat : Nat) : Int) != 63) = false) := by
            intro hend
            have hjr : atL r < r.length := by omega
            have hst := atL_stop hjr
            rw [hrx (atL r) k hk hjr hend, ← u8eq _ 47 47 rfl, ← u8eq _ 63 63 rfl] at hst
            cases hq : (((x[k].toNat : Nat) : Int) == 47)
            · refine .inr ⟨hend, by rw [bne, hq]; rfl, ?_⟩
              rcases hst with h | h
              · rw [hq] at h; cases h
              · rw [bne, h]; rfl
            · exact .inl ⟨hend, by rw [bne, hq]; rfl⟩
          clear hrx hv2 hk hrh hal hrl
          obtain ⟨A, hA⟩ : ∃ A : ByteArray, x.extract 0 k = A := ⟨_, rfl⟩
          have hAl : A.data.toList = x.data.toList.take k := by rw [← hA, Lib.extract_data]; simp
          have hAs : A.size ≤ 1000000 := by rw [← hA, ByteArray.size_extract]; omega
          obtain ⟨y, hy⟩ : ∃ y : ByteArray, x.extract k x.size = y := ⟨_, rfl⟩
          have hyl : y.data.toList = x.data.toList.drop k := by rw [← hy, Lib.extract_to_end]
          have hys : y.size ≤ 100000 := by rw [← hy, ByteArray.size_extract]; omega
          have ho := refOrigin A wr (hM.later hZ1.out.low) hAs
          rw [hAl] at ho
          rw [← hA] at ho
          rw [← hyl] at hv3
          have hyh := Lib.hid hy
          clear hA hAl hAs hy hyl
          by_cases hend : k < x.size
          · rcases hlast hend with ⟨_, g1⟩ | ⟨_, g1, g2⟩
            · clear hlast
              cases hor : originP (x.data.toList.take k) with
              | none =>
                rw [orV_none hor] at ho
                have hv4 := Lib.hid (show urlParseP s.data.toList = .error 3 by rw [hv3.out, hor]; rfl)
                clear hv3 hor
                go_wp2_with fail
                refine ho.mono ?_
                rintro e w3 ⟨rfl, hB3⟩
                have hZ2 := Lib.hid ((hZ1.out.later hB3).box (Obj.cells #[.bool false, .string ⟨#[]⟩, .int .i64 0] 23))
                have d0 := hZ2.out.d0
                have d1 := hZ2.out.d1
                have d2 := hZ2.out.d2
                have d3 := hZ2.out.d3
                have d4 := hZ2.out.d4
                have f0 := hZ2.out.f 0
                have f1 := hZ2.out.f 1
                have f2 := hZ2.out.f 2
                have f3 := hZ2.out.f 3
                have f4 := hZ2.out.f 4
                go_wp2
                obtain ⟨e0, e1, e2, e3, e4⟩ := set_5 (.bool false) (.string ⟨#[]⟩) (.int .i64 0) (.string ⟨#[]⟩) (.string ⟨#[]⟩) d0 d1 d2 d3 d4
                refine bodyPost_ret (v := .tuple #[.agg #[.bool false, .string ⟨#[]⟩, .int .i64 0, .string ⟨#[]⟩, .string ⟨#[]⟩], .int .i64 3]) (by simp [results, Tryz.results4, go_sem, e0, e1, e2, e3, e4]; try rfl) rfl ⟨by rw [urlV_error hv4.out], below_set5 hZ2.out.low (Nat.le_refl _)⟩
              | some o =>
                obtain ⟨sec, h, n⟩ := o
                rw [orV_some hor] at ho
                have hv4 := Lib.hid (show urlParseP s.data.toList = joinO (some (sec, h, n)) (restL y.data.toList) by rw [hv3.out, hor])
                clear hv3 hor
                obtain ⟨H, hH⟩ : ∃ H : ByteArray, (⟨h.toArray⟩ : ByteArray) = H := ⟨_, rfl⟩
                rw [hH] at ho
                have hHh := Lib.hid hH
                clear hH
                go_wp2_with fail
                refine ho.mono ?_
                rintro e w3 ⟨rfl, hB3⟩
                have hZ2 := Lib.hid ((hZ1.out.later hB3).box (Obj.cells #[.bool sec, .string H, .int .i64 n] 23))
                have hO := Lib.hid (Below.refl (w3.heap.size + 1) (w3.alloc (Obj.cells #[.bool sec, .string H, .int .i64 n] 23)))
                have hib := fun w' => Tryz.strings_IndexByte y 63 w'
                rw [show ((63 : Int).toNat.toUInt8) = 63 from rfl] at hib
                cases hq63 : y.data.toList.contains 63
                · rw [idx_no 63 _ hq63] at hib
                  have hr := Lib.hid (restL_of (tl := y.data.toList) y ⟨#[]⟩ (bef_no 63 _ hq63).symm (by rw [bef_no 63 _ hq63, List.drop_eq_nil_of_le (by omega)]))
                  clear hq63
                  go_wp2_with fail
                  rw [hyh.out]
                  refine (hib _).mono ?_
                  rintro e w4 ⟨rfl, rfl⟩
                  go_wp2_with fail
                  have hsP := fun w' => refSendable y w' (by omega)
                  cases e1 : y.data.toList.all sendB
                  · rw [e1] at hsP
                    have hv5 := Lib.hid (show urlParseP s.data.toList = .error 3 by rw [hv4.out, hr.out, e1]; rfl)
                    clear e1 hr
                    refine (hsP _).mono ?_
                    rintro e w5 ⟨rfl, rfl⟩
                    have d0 := hZ2.out.d0
                    have d1 := hZ2.out.d1
                    have d2 := hZ2.out.d2
                    have d3 := hZ2.out.d3
                    have d4 := hZ2.out.d4
                    have f0 := hZ2.out.f 0
                    have f1 := hZ2.out.f 1
                    have f2 := hZ2.out.f 2
                    have f3 := hZ2.out.f 3
                    have f4 := hZ2.out.f 4
                    go_wp2
                    obtain ⟨e0, e1, e2, e3, e4⟩ := set_5 (.bool false) (.string ⟨#[]⟩) (.int .i64 0) (.string ⟨#[]⟩) (.string ⟨#[]⟩) d0 d1 d2 d3 d4
                    refine bodyPost_ret (v := .tuple #[.agg #[.bool false, .string ⟨#[]⟩, .int .i64 0, .string ⟨#[]⟩, .string ⟨#[]⟩], .int .i64 3]) (by simp [results, Tryz.results4, go_sem, e0, e1, e2, e3, e4]; try rfl) rfl ⟨by rw [urlV_error hv5.out], below_set5 hZ2.out.low (Nat.le_refl _)⟩
                  · have hsQ := fun w' => refSendable (⟨#[]⟩ : ByteArray) w' (by first | (decide) | omega)
                    rw [e1] at hsP
                    cases e2 : (⟨#[]⟩ : ByteArray).data.toList.all sendB
                    · rw [e2] at hsQ
                      have hv5 := Lib.hid (show urlParseP s.data.toList = .error 3 by rw [hv4.out, hr.out, e1, e2]; rfl)
                      clear e1 e2 hr
                      refine (hsP _).mono ?_
                      rintro e w5 ⟨rfl, rfl⟩
                      go_wp2_with fail
                      refine (hsQ _).mono ?_
                      rintro e w5 ⟨rfl, rfl⟩
                      have d0 := hZ2.out.d0
                      have d1 := hZ2.out.d1
                      have d2 := hZ2.out.d2
                      have d3 := hZ2.out.d3
                      have d4 := hZ2.out.d4
                      have f0 := hZ2.out.f 0
                      have f1 := hZ2.out.f 1
                      have f2 := hZ2.out.f 2
                      have f3 := hZ2.out.f 3
                      have f4 := hZ2.out.f 4
                      go_wp2
                      obtain ⟨e0, e1, e2, e3, e4⟩ := set_5 (.bool false) (.string ⟨#[]⟩) (.int .i64 0) (.string ⟨#[]⟩) (.string ⟨#[]⟩) d0 d1 d2 d3 d4
                      refine bodyPost_ret (v := .tuple #[.agg #[.bool false, .string ⟨#[]⟩, .int .i64 0, .string ⟨#[]⟩, .string ⟨#[]⟩], .int .i64 3]) (by simp [results, Tryz.results4, go_sem, e0, e1, e2, e3, e4]; try rfl) rfl ⟨by rw [urlV_error hv5.out], below_set5 hZ2.out.low (Nat.le_refl _)⟩
                    · rw [e2] at hsQ
                      have hcl := fun w' hM => refClean y w' hM (by omega)
                      obtain ⟨C, hC⟩ : ∃ C : ByteArray, cleanB y = C := ⟨_, rfl⟩
                      rw [hC] at hcl
                      have hv5 := Lib.hid (show urlParseP s.data.toList = joinO (some (sec, h, n)) (if 200 < C.size then .error 2 else .ok (C, (⟨#[]⟩ : ByteArray).data.toList)) by rw [hv4.out, hr.out, e1, e2, hC]; rfl)
                      clear e1 e2 hr hC
                      refine (hsP _).mono ?_
                      rintro e w5 ⟨rfl, rfl⟩
                      go_wp2_with fail
                      refine (hsQ _).mono ?_
                      rintro e w5 ⟨rfl, rfl⟩
                      go_wp2_with fail
                      refine (hcl _ (hM.later hZ2.out.low)).mono ?_
                      rintro e w6 ⟨rfl, hB6⟩
                      have hZ6 := Lib.hid (hZ2.out.later hB6)
                      by_cases h200 : 200 < C.size
                      · have hv6 := Lib.hid (show urlParseP s.data.toList = .error 2 by rw [hv5.out, if_pos h200]; rfl)
                        clear hcl hsP hsQ
                        have d0 := hZ6.out.d0
                        have d1 := hZ6.out.d1
                        have d2 := hZ6.out.d2
                        have d3 := hZ6.out.d3
                        have d4 := hZ6.out.d4
                        have f0 := hZ6.out.f 0
                        have f1 := hZ6.out.f 1
                        have f2 := hZ6.out.f 2
                        have f3 := hZ6.out.f 3
                        have f4 := hZ6.out.f 4
                        go_wp2
                        obtain ⟨e0, e1, e2, e3, e4⟩ := set_5 (.bool false) (.string ⟨#[]⟩) (.int .i64 0) (.string ⟨#[]⟩) (.string ⟨#[]⟩) d0 d1 d2 d3 d4
                        refine bodyPost_ret (v := .tuple #[.agg #[.bool false, .string ⟨#[]⟩, .int .i64 0, .string ⟨#[]⟩, .string ⟨#[]⟩], .int .i64 2]) (by simp [results, Tryz.results4, go_sem, e0, e1, e2, e3, e4]; try rfl) rfl ⟨by rw [urlV_error hv6.out], below_set5 hZ6.out.low (Nat.le_refl _)⟩
                      · have hov : Hid (urlV (urlParseP s.data.toList) (.int .i64 0) (fun x => .int .i64 x) = .tuple #[.agg #[.bool sec, .string H, .int .i64 n, .string C, .string (⟨#[]⟩ : ByteArray)], .int .i64 0]) := Lib.hid ((urlV_ok (show urlParseP s.data.toList = .ok ((sec, h, n), C, (⟨#[]⟩ : ByteArray).data.toList) by rw [hv5.out, if_neg h200]; rfl)).trans (by rw [hHh.out, ba_eta]))
                        have hO6 := hO.out.then (by simp) hB6
                        have o0 := box_cell hO6 0 rfl
                        have o1 := box_cell hO6 1 rfl
                        have o2 := box_cell hO6 2 rfl
                        clear hcl hsP hsQ hO6
                        have d0 := hZ6.out.d0
                        have d1 := hZ6.out.d1
                        have d2 := hZ6.out.d2
                        have d3 := hZ6.out.d3
                        have d4 := hZ6.out.d4
                        have f0 := hZ6.out.f 0
                        have f1 := hZ6.out.f 1
                        have f2 := hZ6.out.f 2
                        have f3 := hZ6.out.f 3
                        have f4 := hZ6.out.f 4
                        go_wp2
                        obtain ⟨e0, e1, e2, e3, e4⟩ := set_5 (.bool sec) (.string H) (.int .i64 n) (.string C) (.string (⟨#[]⟩ : ByteArray)) d0 d1 d2 d3 d4
                        refine bodyPost_ret (v := .tuple #[.agg #[.bool sec, .string H, .int .i64 n, .string C, .string (⟨#[]⟩ : ByteArray)], .int .i64 0]) (by simp [results, Tryz.results4, go_sem, e0, e1, e2, e3, e4]; try rfl) rfl ⟨by rw [hov.out], below_set5 hZ6.out.low (Nat.le_refl _)⟩
                · rw [idx_has 63 _ hq63] at hib
                  have hj2l := bef_lt 63 _ hq63
                  rw [← sz_len] at hj2l
                  obtain ⟨j2, hj2⟩ : ∃ j2 : Nat, j2 = (befL 63 y.data.toList).length := ⟨_, rfl⟩
                  rw [← hj2] at hib hj2l
                  obtain ⟨P, hP⟩ : ∃ P : ByteArray, y.extract 0 j2 = P := ⟨_, rfl⟩
                  obtain ⟨Q, hQ⟩ : ∃ Q : ByteArray, y.extract (j2 + 1) y.size = Q := ⟨_, rfl⟩
                  have hr := Lib.hid (restL_of (tl := y.data.toList) P Q (by rw [← hP, Lib.extract_data, hj2]; simpa using bef_take 63 y.data.toList) (by rw [← hQ, Lib.extract_to_end, hj2]))
                  have hPs : P.size ≤ 100000 := by rw [← hP, ByteArray.size_extract]; omega
                  have hQs : Q.size ≤ 100000 := by rw [← hQ, ByteArray.size_extract]; omega
                  have hPh := Lib.hid hP
                  have hQh := Lib.hid hQ
                  clear hq63 hj2 hP hQ
                  go_wp2_with fail
                  rw [hyh.out]
                  refine (hib _).mono ?_
                  rintro e w4 ⟨rfl, rfl⟩
                  go_wp2_with fail
                  go_quiet (fail)
                  have hZd := Lib.hid (hZ2.out.drawn nq)
                  have hOd := Lib.hid (below_drewN hO.out nq)
                  go_wp2_with fail
                  rw [hPh.out]
                  have hsP := fun w' => refSendable P w' (by omega)
                  cases e1 : P.data.toList.all sendB
                  · rw [e1] at hsP
                    have hv5 := Lib.hid (show urlParseP s.data.toList = .error 3 by rw [hv4.out, hr.out, e1]; rfl)
                    clear e1 hr
                    refine (hsP _).mono ?_
                    rintro e w5 ⟨rfl, rfl⟩
                    have d0 := hZd.out.d0
                    have d1 := hZd.out.d1
                    have d2 := hZd.out.d2
                    have d3 := hZd.out.d3
                    have d4 := hZd.out.d4
                    have f0 := hZd.out.f 0
                    have f1 := hZd.out.f 1
                    have f2 := hZd.out.f 2
                    have f3 := hZd.out.f 3
                    have f4 := hZd.out.f 4
                    go_wp2
                    obtain ⟨e0, e1, e2, e3, e4⟩ := set_5 (.bool false) (.string ⟨#[]⟩) (.int .i64 0) (.string ⟨#[]⟩) (.string ⟨#[]⟩) d0 d1 d2 d3 d4
                    refine bodyPost_ret (v := .tuple #[.agg #[.bool false, .string ⟨#[]⟩, .int .i64 0, .string ⟨#[]⟩, .string ⟨#[]⟩], .int .i64 3]) (by simp [results, Tryz.results4, go_sem, e0, e1, e2, e3, e4]; try rfl) rfl ⟨by rw [urlV_error hv5.out], below_set5 hZd.out.low (Nat.le_refl _)⟩
                  · have hsQ := fun w' => refSendable Q w' (by first | (decide) | omega)
                    rw [e1] at hsP
                    cases e2 : Q.data.toList.all sendB
                    · rw [e2] at hsQ
                      have hv5 := Lib.hid (show urlParseP s.data.toList = .error 3 by rw [hv4.out, hr.out, e1, e2]; rfl)
                      clear e1 e2 hr
                      refine (hsP _).mono ?_
                      rintro e w5 ⟨rfl, rfl⟩
                      go_wp2_with fail
                      (try rw [hQh.out])
                      refine (hsQ _).mono ?_
                      rintro e w5 ⟨rfl, rfl⟩
                      have d0 := hZd.out.d0
                      have d1 := hZd.out.d1
                      have d2 := hZd.out.d2
                      have d3 := hZd.out.d3
                      have d4 := hZd.out.d4
                      have f0 := hZd.out.f 0
                      have f1 := hZd.out.f 1
                      have f2 := hZd.out.f 2
                      have f3 := hZd.out.f 3
                      have f4 := hZd.out.f 4
                      go_wp2
                      obtain ⟨e0, e1, e2, e3, e4⟩ := set_5 (.bool false) (.string ⟨#[]⟩) (.int .i64 0) (.string ⟨#[]⟩) (.string ⟨#[]⟩) d0 d1 d2 d3 d4
                      refine bodyPost_ret (v := .tuple #[.agg #[.bool false, .string ⟨#[]⟩, .int .i64 0, .string ⟨#[]⟩, .string ⟨#[]⟩], .int .i64 3]) (by simp [results, Tryz.results4, go_sem, e0, e1, e2, e3, e4]; try rfl) rfl ⟨by rw [urlV_error hv5.out], below_set5 hZd.out.low (Nat.le_refl _)⟩
                    · rw [e2] at hsQ
                      have hcl := fun w' hM => refClean P w' hM (by omega)
                      obtain ⟨C, hC⟩ : ∃ C : ByteArray, cleanB P = C := ⟨_, rfl⟩
                      rw [hC] at hcl
                      have hv5 := Lib.hid (show urlParseP s.data.toList = joinO (some (sec, h, n)) (if 200 < C.size then .error 2 else .ok (C, Q.data.toList)) by rw [hv4.out, hr.out, e1, e2, hC]; rfl)
                      clear e1 e2 hr hC
                      refine (hsP _).mono ?_
                      rintro e w5 ⟨rfl, rfl⟩
                      go_wp2_with fail
                      (try rw [hQh.out])
                      refine (hsQ _).mono ?_
                      rintro e w5 ⟨rfl, rfl⟩
                      go_wp2_with fail
                      (try rw [hPh.out])
                      refine (hcl _ (hM.later hZd.out.low)).mono ?_
                      rintro e w6 ⟨rfl, hB6⟩
                      have hZ6 := Lib.hid (hZd.out.later hB6)
                      by_cases h200 : 200 < C.size
                      · have hv6 := Lib.hid (show urlParseP s.data.toList = .error 2 by rw [hv5.out, if_pos h200]; rfl)
                        clear hcl hsP hsQ
                        have d0 := hZ6.out.d0
                        have d1 := hZ6.out.d1
                        have d2 := hZ6.out.d2
                        have d3 := hZ6.out.d3
                        have d4 := hZ6.out.d4
                        have f0 := hZ6.out.f 0
                        have f1 := hZ6.out.f 1
                        have f2 := hZ6.out.f 2
                        have f3 := hZ6.out.f 3
                        have f4 := hZ6.out.f 4
                        go_wp2
                        obtain ⟨e0, e1, e2, e3, e4⟩ := set_5 (.bool false) (.string ⟨#[]⟩) (.int .i64 0) (.string ⟨#[]⟩) (.string ⟨#[]⟩) d0 d1 d2 d3 d4
                        refine bodyPost_ret (v := .tuple #[.agg #[.bool false, .string ⟨#[]⟩, .int .i64 0, .string ⟨#[]⟩, .string ⟨#[]⟩], .int .i64 2]) (by simp [results, Tryz.results4, go_sem, e0, e1, e2, e3, e4]; try rfl) rfl ⟨by rw [urlV_error hv6.out], below_set5 hZ6.out.low (Nat.le_refl _)⟩
                      · have hov : Hid (urlV (urlParseP s.data.toList) (.int .i64 0) (fun x => .int .i64 x) = .tuple #[.agg #[.bool sec, .string H, .int .i64 n, .string C, .string Q], .int .i64 0]) := Lib.hid ((urlV_ok (show urlParseP s.data.toList = .ok ((sec, h, n), C, Q.data.toList) by rw [hv5.out, if_neg h200]; rfl)).trans (by rw [hHh.out, ba_eta]))
                        have hO6 := hOd.out.then (by simp) hB6
                        have o0 := box_cell hO6 0 rfl
                        have o1 := box_cell hO6 1 rfl
                        have o2 := box_cell hO6 2 rfl
                        clear hcl hsP hsQ hO6
                        have d0 := hZ6.out.d0
                        have d1 := hZ6.out.d1
                        have d2 := hZ6.out.d2
                        have d3 := hZ6.out.d3
                        have d4 := hZ6.out.d4
                        have f0 := hZ6.out.f 0
                        have f1 := hZ6.out.f 1
                        have f2 := hZ6.out.f 2
                        have f3 := hZ6.out.f 3
                        have f4 := hZ6.out.f 4
                        go_wp2
                        obtain ⟨e0, e1, e2, e3, e4⟩ := set_5 (.bool sec) (.string H) (.int .i64 n) (.string C) (.string Q) d0 d1 d2 d3 d4
                        refine bodyPost_ret (v := .tuple #[.agg #[.bool sec, .string H, .int .i64 n, .string C, .string Q], .int .i64 0]) (by simp [results, Tryz.results4, go_sem, e0, e1, e2, e3, e4]; try rfl) rfl ⟨by rw [hov.out], below_set5 hZ6.out.low (Nat.le_refl _)⟩
            · clear hlast
              cases hor : originP (x.data.toList.take k) with
              | none =>
                rw [orV_none hor] at ho
                have hv4 := Lib.hid (show urlParseP s.data.toList = .error 3 by rw [hv3.out, hor]; rfl)
                clear hv3 hor
                go_wp2_with fail
                refine ho.mono ?_
                rintro e w3 ⟨rfl, hB3⟩
                have hZ2 := Lib.hid ((hZ1.out.later hB3).box (Obj.cells #[.bool false, .string ⟨#[]⟩, .int .i64 0] 23))
                have d0 := hZ2.out.d0
                have d1 := hZ2.out.d1
                have d2 := hZ2.out.d2
                have d3 := hZ2.out.d3
                have d4 := hZ2.out.d4
                have f0 := hZ2.out.f 0
                have f1 := hZ2.out.f 1
                have f2 := hZ2.out.f 2
                have f3 := hZ2.out.f 3
                have f4 := hZ2.out.f 4
                go_wp2
                obtain ⟨e0, e1, e2, e3, e4⟩ := set_5 (.bool false) (.string ⟨#[]⟩) (.int .i64 0) (.string ⟨#[]⟩) (.string ⟨#[]⟩) d0 d1 d2 d3 d4
                refine bodyPost_ret (v := .tuple #[.agg #[.bool false, .string ⟨#[]⟩, .int .i64 0, .string ⟨#[]⟩, .string ⟨#[]⟩], .int .i64 3]) (by simp [results, Tryz.results4, go_sem, e0, e1, e2, e3, e4]; try rfl) rfl ⟨by rw [urlV_error hv4.out], below_set5 hZ2.out.low (Nat.le_refl _)⟩
              | some o =>
                obtain ⟨sec, h, n⟩ := o
                rw [orV_some hor] at ho
                have hv4 := Lib.hid (show urlParseP s.data.toList = joinO (some (sec, h, n)) (restL y.data.toList) by rw [hv3.out, hor])
                clear hv3 hor
                obtain ⟨H, hH⟩ : ∃ H : ByteArray, (⟨h.toArray⟩ : ByteArray) = H := ⟨_, rfl⟩
                rw [hH] at ho
                have hHh := Lib.hid hH
                clear hH
                go_wp2_with fail
                refine ho.mono ?_
                rintro e w3 ⟨rfl, hB3⟩
                have hZ2 := Lib.hid ((hZ1.out.later hB3).box (Obj.cells #[.bool sec, .string H, .int .i64 n] 23))
                have hO := Lib.hid (Below.refl (w3.heap.size + 1) (w3.alloc (Obj.cells #[.bool sec, .string H, .int .i64 n] 23)))
                have hib := fun w' => Tryz.strings_IndexByte y 63 w'
                rw [show ((63 : Int).toNat.toUInt8) = 63 from rfl] at hib
                cases hq63 : y.data.toList.contains 63
                · rw [idx_no 63 _ hq63] at hib
                  have hr := Lib.hid (restL_of (tl := y.data.toList) y ⟨#[]⟩ (bef_no 63 _ hq63).symm (by rw [bef_no 63 _ hq63, List.drop_eq_nil_of_le (by omega)]))
                  clear hq63
                  go_wp2_with fail
                  rw [hyh.out]
                  refine (hib _).mono ?_
                  rintro e w4 ⟨rfl, rfl⟩
                  go_wp2_with fail
                  have hsP := fun w' => refSendable y w' (by omega)
                  cases e1 : y.data.toList.all sendB
                  · rw [e1] at hsP
                    have hv5 := Lib.hid (show urlParseP s.data.toList = .error 3 by rw [hv4.out, hr.out, e1]; rfl)
                    clear e1 hr
                    refine (hsP _).mono ?_
                    rintro e w5 ⟨rfl, rfl⟩
                    have d0 := hZ2.out.d0
                    have d1 := hZ2.out.d1
                    have d2 := hZ2.out.d2
                    have d3 := hZ2.out.d3
                    have d4 := hZ2.out.d4
                    have f0 := hZ2.out.f 0
                    have f1 := hZ2.out.f 1
                    have f2 := hZ2.out.f 2
                    have f3 := hZ2.out.f 3
                    have f4 := hZ2.out.f 4
                    go_wp2
                    obtain ⟨e0, e1, e2, e3, e4⟩ := set_5 (.bool false) (.string ⟨#[]⟩) (.int .i64 0) (.string ⟨#[]⟩) (.string ⟨#[]⟩) d0 d1 d2 d3 d4
                    refine bodyPost_ret (v := .tuple #[.agg #[.bool false, .string ⟨#[]⟩, .int .i64 0, .string ⟨#[]⟩, .string ⟨#[]⟩], .int .i64 3]) (by simp [results, Tryz.results4, go_sem, e0, e1, e2, e3, e4]; try rfl) rfl ⟨by rw [urlV_error hv5.out], below_set5 hZ2.out.low (Nat.le_refl _)⟩
                  · have hsQ := fun w' => refSendable (⟨#[]⟩ : ByteArray) w' (by first | (decide) | omega)
                    rw [e1] at hsP
                    cases e2 : (⟨#[]⟩ : ByteArray).data.toList.all sendB
                    · rw [e2] at hsQ
                      have hv5 := Lib.hid (show urlParseP s.data.toList = .error 3 by rw [hv4.out, hr.out, e1, e2]; rfl)
                      clear e1 e2 hr
                      refine (hsP _).mono ?_
                      rintro e w5 ⟨rfl, rfl⟩
                      go_wp2_with fail
                      refine (hsQ _).mono ?_
                      rintro e w5 ⟨rfl, rfl⟩
                      have d0 := hZ2.out.d0
                      have d1 := hZ2.out.d1
                      have d2 := hZ2.out.d2
                      have d3 := hZ2.out.d3
                      have d4 := hZ2.out.d4
                      have f0 := hZ2.out.f 0
                      have f1 := hZ2.out.f 1
                      have f2 := hZ2.out.f 2
                      have f3 := hZ2.out.f 3
                      have f4 := hZ2.out.f 4
                      go_wp2
                      obtain ⟨e0, e1, e2, e3, e4⟩ := set_5 (.bool false) (.string ⟨#[]⟩) (.int .i64 0) (.string ⟨#[]⟩) (.string ⟨#[]⟩) d0 d1 d2 d3 d4
                      refine bodyPost_ret (v := .tuple #[.agg #[.bool false, .string ⟨#[]⟩, .int .i64 0, .string ⟨#[]⟩, .string ⟨#[]⟩], .int .i64 3]) (by simp [results, Tryz.results4, go_sem, e0, e1, e2, e3, e4]; try rfl) rfl ⟨by rw [urlV_error hv5.out], below_set5 hZ2.out.low (Nat.le_refl _)⟩
                    · rw [e2] at hsQ
                      have hcl := fun w' hM => refClean y w' hM (by omega)
                      obtain ⟨C, hC⟩ : ∃ C : ByteArray, cleanB y = C := ⟨_, rfl⟩
                      rw [hC] at hcl
                      have hv5 := Lib.hid (show urlParseP s.data.toList = joinO (some (sec, h, n)) (if 200 < C.size then .error 2 else .ok (C, (⟨#[]⟩ : ByteArray).data.toList)) by rw [hv4.out, hr.out, e1, e2, hC]; rfl)
                      clear e1 e2 hr hC
                      refine (hsP _).mono ?_
                      rintro e w5 ⟨rfl, rfl⟩
                      go_wp2_with fail
                      refine (hsQ _).mono ?_
                      rintro e w5 ⟨rfl, rfl⟩
                      go_wp2_with fail
                      refine (hcl _ (hM.later hZ2.out.low)).mono ?_
                      rintro e w6 ⟨rfl, hB6⟩
                      have hZ6 := Lib.hid (hZ2.out.later hB6)
                      by_cases h200 : 200 < C.size
                      · have hv6 := Lib.hid (show urlParseP s.data.toList = .error 2 by rw [hv5.out, if_pos h200]; rfl)
                        clear hcl hsP hsQ
                        have d0 := hZ6.out.d0
                        have d1 := hZ6.out.d1
                        have d2 := hZ6.out.d2
                        have d3 := hZ6.out.d3
                        have d4 := hZ6.out.d4
                        have f0 := hZ6.out.f 0
                        have f1 := hZ6.out.f 1
                        have f2 := hZ6.out.f 2
                        have f3 := hZ6.out.f 3
                        have f4 := hZ6.out.f 4
                        go_wp2
                        obtain ⟨e0, e1, e2, e3, e4⟩ := set_5 (.bool false) (.string ⟨#[]⟩) (.int .i64 0) (.string ⟨#[]⟩) (.string ⟨#[]⟩) d0 d1 d2 d3 d4
                        refine bodyPost_ret (v := .tuple #[.agg #[.bool false, .string ⟨#[]⟩, .int .i64 0, .string ⟨#[]⟩, .string ⟨#[]⟩], .int .i64 2]) (by simp [results, Tryz.results4, go_sem, e0, e1, e2, e3, e4]; try rfl) rfl ⟨by rw [urlV_error hv6.out], below_set5 hZ6.out.low (Nat.le_refl _)⟩
                      · have hov : Hid (urlV (urlParseP s.data.toList) (.int .i64 0) (fun x => .int .i64 x) = .tuple #[.agg #[.bool sec, .string H, .int .i64 n, .string C, .string (⟨#[]⟩ : ByteArray)], .int .i64 0]) := Lib.hid ((urlV_ok (show urlParseP s.data.toList = .ok ((sec, h, n), C, (⟨#[]⟩ : ByteArray).data.toList) by rw [hv5.out, if_neg h200]; rfl)).trans (by rw [hHh.out, ba_eta]))
                        have hO6 := hO.out.then (by simp) hB6
                        have o0 := box_cell hO6 0 rfl
                        have o1 := box_cell hO6 1 rfl
                        have o2 := box_cell hO6 2 rfl
                        clear hcl hsP hsQ hO6
                        have d0 := hZ6.out.d0
                        have d1 := hZ6.out.d1
                        have d2 := hZ6.out.d2
                        have d3 := hZ6.out.d3
                        have d4 := hZ6.out.d4
                        have f0 := hZ6.out.f 0
                        have f1 := hZ6.out.f 1
                        have f2 := hZ6.out.f 2
                        have f3 := hZ6.out.f 3
                        have f4 := hZ6.out.f 4
                        go_wp2
                        obtain ⟨e0, e1, e2, e3, e4⟩ := set_5 (.bool sec) (.string H) (.int .i64 n) (.string C) (.string (⟨#[]⟩ : ByteArray)) d0 d1 d2 d3 d4
                        refine bodyPost_ret (v := .tuple #[.agg #[.bool sec, .string H, .int .i64 n, .string C, .string (⟨#[]⟩ : ByteArray)], .int .i64 0]) (by simp [results, Tryz.results4, go_sem, e0, e1, e2, e3, e4]; try rfl) rfl ⟨by rw [hov.out], below_set5 hZ6.out.low (Nat.le_refl _)⟩
                · rw [idx_has 63 _ hq63] at hib
                  have hj2l := bef_lt 63 _ hq63
                  rw [← sz_len] at hj2l
                  obtain ⟨j2, hj2⟩ : ∃ j2 : Nat, j2 = (befL 63 y.data.toList).length := ⟨_, rfl⟩
                  rw [← hj2] at hib hj2l
                  obtain ⟨P, hP⟩ : ∃ P : ByteArray, y.extract 0 j2 = P := ⟨_, rfl⟩
                  obtain ⟨Q, hQ⟩ : ∃ Q : ByteArray, y.extract (j2 + 1) y.size = Q := ⟨_, rfl⟩
                  have hr := Lib.hid (restL_of (tl := y.data.toList) P Q (by rw [← hP, Lib.extract_data, hj2]; simpa using bef_take 63 y.data.toList) (by rw [← hQ, Lib.extract_to_end, hj2]))
                  have hPs : P.size ≤ 100000 := by rw [← hP, ByteArray.size_extract]; omega
                  have hQs : Q.size ≤ 100000 := by rw [← hQ, ByteArray.size_extract]; omega
                  have hPh := Lib.hid hP
                  have hQh := Lib.hid hQ
                  clear hq63 hj2 hP hQ
                  go_wp2_with fail
                  rw [hyh.out]
                  refine (hib _).mono ?_
                  rintro e w4 ⟨rfl, rfl⟩
                  go_wp2_with fail
                  go_quiet (fail)
                  have hZd := Lib.hid (hZ2.out.drawn nq)
                  have hOd := Lib.hid (below_drewN hO.out nq)
                  go_wp2_with fail
                  rw [hPh.out]
                  have hsP := fun w' => refSendable P w' (by omega)
                  cases e1 : P.data.toList.all sendB
                  · rw [e1] at hsP
                    have hv5 := Lib.hid (show urlParseP s.data.toList = .error 3 by rw [hv4.out, hr.out, e1]; rfl)
                    clear e1 hr
                    refine (hsP _).mono ?_
                    rintro e w5 ⟨rfl, rfl⟩
                    have d0 := hZd.out.d0
                    have d1 := hZd.out.d1
                    have d2 := hZd.out.d2
                    have d3 := hZd.out.d3
                    have d4 := hZd.out.d4
                    have f0 := hZd.out.f 0
                    have f1 := hZd.out.f 1
                    have f2 := hZd.out.f 2
                    have f3 := hZd.out.f 3
                    have f4 := hZd.out.f 4
                    go_wp2
                    obtain ⟨e0, e1, e2, e3, e4⟩ := set_5 (.bool false) (.string ⟨#[]⟩) (.int .i64 0) (.string ⟨#[]⟩) (.string ⟨#[]⟩) d0 d1 d2 d3 d4
                    refine bodyPost_ret (v := .tuple #[.agg #[.bool false, .string ⟨#[]⟩, .int .i64 0, .string ⟨#[]⟩, .string ⟨#[]⟩], .int .i64 3]) (by simp [results, Tryz.results4, go_sem, e0, e1, e2, e3, e4]; try rfl) rfl ⟨by rw [urlV_error hv5.out], below_set5 hZd.out.low (Nat.le_refl _)⟩
                  · have hsQ := fun w' => refSendable Q w' (by first | (decide) | omega)
                    rw [e1] at hsP
                    cases e2 : Q.data.toList.all sendB
                    · rw [e2] at hsQ
                      have hv5 := Lib.hid (show urlParseP s.data.toList = .error 3 by rw [hv4.out, hr.out, e1, e2]; rfl)
                      clear e1 e2 hr
                      refine (hsP _).mono ?_
                      rintro e w5 ⟨rfl, rfl⟩
                      go_wp2_with fail
                      (try rw [hQh.out])
                      refine (hsQ _).mono ?_
                      rintro e w5 ⟨rfl, rfl⟩
                      have d0 := hZd.out.d0
                      have d1 := hZd.out.d1
                      have d2 := hZd.out.d2
                      have d3 := hZd.out.d3
                      have d4 := hZd.out.d4
                      have f0 := hZd.out.f 0
                      have f1 := hZd.out.f 1
                      have f2 := hZd.out.f 2
                      have f3 := hZd.out.f 3
                      have f4 := hZd.out.f 4
                      go_wp2
                      obtain ⟨e0, e1, e2, e3, e4⟩ := set_5 (.bool false) (.string ⟨#[]⟩) (.int .i64 0) (.string ⟨#[]⟩) (.string ⟨#[]⟩) d0 d1 d2 d3 d4
                      refine bodyPost_ret (v := .tuple #[.agg #[.bool false, .string ⟨#[]⟩, .int .i64 0, .string ⟨#[]⟩, .string ⟨#[]⟩], .int .i64 3]) (by simp [results, Tryz.results4, go_sem, e0, e1, e2, e3, e4]; try rfl) rfl ⟨by rw [urlV_error hv5.out], below_set5 hZd.out.low (Nat.le_refl _)⟩
                    · rw [e2] at hsQ
                      have hcl := fun w' hM => refClean P w' hM (by omega)
                      obtain ⟨C, hC⟩ : ∃ C : ByteArray, cleanB P = C := ⟨_, rfl⟩
                      rw [hC] at hcl
                      have hv5 := Lib.hid (show urlParseP s.data.toList = joinO (some (sec, h, n)) (if 200 < C.size then .error 2 else .ok (C, Q.data.toList)) by rw [hv4.out, hr.out, e1, e2, hC]; rfl)
                      clear e1 e2 hr hC
                      refine (hsP _).mono ?_
                      rintro e w5 ⟨rfl, rfl⟩
                      go_wp2_with fail
                      (try rw [hQh.out])
                      refine (hsQ _).mono ?_
                      rintro e w5 ⟨rfl, rfl⟩
                      go_wp2_with fail
                      (try rw [hPh.out])
                      refine (hcl _ (hM.later hZd.out.low)).mono ?_
                      rintro e w6 ⟨rfl, hB6⟩
                      have hZ6 := Lib.hid (hZd.out.later hB6)
                      by_cases h200 : 200 < C.size
                      · have hv6 := Lib.hid (show urlParseP s.data.toList = .error 2 by rw [hv5.out, if_pos h200]; rfl)
                        clear hcl hsP hsQ
                        have d0 := hZ6.out.d0
                        have d1 := hZ6.out.d1
                        have d2 := hZ6.out.d2
                        have d3 := hZ6.out.d3
                        have d4 := hZ6.out.d4
                        have f0 := hZ6.out.f 0
                        have f1 := hZ6.out.f 1
                        have f2 := hZ6.out.f 2
                        have f3 := hZ6.out.f 3
                        have f4 := hZ6.out.f 4
                        go_wp2
                        obtain ⟨e0, e1, e2, e3, e4⟩ := set_5 (.bool false) (.string ⟨#[]⟩) (.int .i64 0) (.string ⟨#[]⟩) (.string ⟨#[]⟩) d0 d1 d2 d3 d4
                        refine bodyPost_ret (v := .tuple #[.agg #[.bool false, .string ⟨#[]⟩, .int .i64 0, .string ⟨#[]⟩, .string ⟨#[]⟩], .int .i64 2]) (by simp [results, Tryz.results4, go_sem, e0, e1, e2, e3, e4]; try rfl) rfl ⟨by rw [urlV_error hv6.out], below_set5 hZ6.out.low (Nat.le_refl _)⟩
                      · have hov : Hid (urlV (urlParseP s.data.toList) (.int .i64 0) (fun x => .int .i64 x) = .tuple #[.agg #[.bool sec, .string H, .int .i64 n, .string C, .string Q], .int .i64 0]) := Lib.hid ((urlV_ok (show urlParseP s.data.toList = .ok ((sec, h, n), C, Q.data.toList) by rw [hv5.out, if_neg h200]; rfl)).trans (by rw [hHh.out, ba_eta]))
                        have hO6 := hOd.out.then (by simp) hB6
                        have o0 := box_cell hO6 0 rfl
                        have o1 := box_cell hO6 1 rfl
                        have o2 := box_cell hO6 2 rfl
                        clear hcl hsP hsQ hO6
                        have d0 := hZ6.out.d0
                        have d1 := hZ6.out.d1
                        have d2 := hZ6.out.d2
                        have d3 := hZ6.out.d3
                        have d4 := hZ6.out.d4
                        have f0 := hZ6.out.f 0
                        have f1 := hZ6.out.f 1
                        have f2 := hZ6.out.f 2
                        have f3 := hZ6.out.f 3
                        have f4 := hZ6.out.f 4
                        go_wp2
                        obtain ⟨e0, e1, e2, e3, e4⟩ := set_5 (.bool sec) (.string H) (.int .i64 n) (.string C) (.string Q) d0 d1 d2 d3 d4
                        refine bodyPost_ret (v := .tuple #[.agg #[.bool sec, .string H, .int .i64 n, .string C, .string Q], .int .i64 0]) (by simp [results, Tryz.results4, go_sem, e0, e1, e2, e3, e4]; try rfl) rfl ⟨by rw [hov.out], below_set5 hZ6.out.low (Nat.le_refl _)⟩
          · clear hlast
            cases hor : originP (x.data.toList.take k) with
            | none =>
              rw [orV_none hor] at ho
              have hv4 := Lib.hid (show urlParseP s.data.toList = .error 3 by rw [hv3.out, hor]; rfl)
              clear hv3 hor
              go_wp2_with fail
              refine ho.mono ?_
              rintro e w3 ⟨rfl, hB3⟩
              have hZ2 := Lib.hid ((hZ1.out.later hB3).box (Obj.cells #[.bool false, .string ⟨#[]⟩, .int .i64 0] 23))
              have d0 := hZ2.out.d0
              have d1 := hZ2.out.d1
              have d2 := hZ2.out.d2
              have d3 := hZ2.out.d3
              have d4 := hZ2.out.d4
              have f0 := hZ2.out.f 0
              have f1 := hZ2.out.f 1
              have f2 := hZ2.out.f 2
              have f3 := hZ2.out.f 3
              have f4 := hZ2.out.f 4
              go_wp2
              obtain ⟨e0, e1, e2, e3, e4⟩ := set_5 (.bool false) (.string ⟨#[]⟩) (.int .i64 0) (.string ⟨#[]⟩) (.string ⟨#[]⟩) d0 d1 d2 d3 d4
              refine bodyPost_ret (v := .tuple #[.agg #[.bool false, .string ⟨#[]⟩, .int .i64 0, .string ⟨#[]⟩, .string ⟨#[]⟩], .int .i64 3]) (by simp [results, Tryz.results4, go_sem, e0, e1, e2, e3, e4]; try rfl) rfl ⟨by rw [urlV_error hv4.out], below_set5 hZ2.out.low (Nat.le_refl _)⟩
            | some o =>
              obtain ⟨sec, h, n⟩ := o
              rw [orV_some hor] at ho
              have hv4 := Lib.hid (show urlParseP s.data.toList = joinO (some (sec, h, n)) (restL y.data.toList) by rw [hv3.out, hor])
              clear hv3 hor
              obtain ⟨H, hH⟩ : ∃ H : ByteArray, (⟨h.toArray⟩ : ByteArray) = H := ⟨_, rfl⟩
              rw [hH] at ho
              have hHh := Lib.hid hH
              clear hH
              go_wp2_with fail
              refine ho.mono ?_
              rintro e w3 ⟨rfl, hB3⟩
              have hZ2 := Lib.hid ((hZ1.out.later hB3).box (Obj.cells #[.bool sec, .string H, .int .i64 n] 23))
              have hO := Lib.hid (Below.refl (w3.heap.size + 1) (w3.alloc (Obj.cells #[.bool sec, .string H, .int .i64 n] 23)))
              have hib := fun w' => Tryz.strings_IndexByte y 63 w'
              rw [show ((63 : Int).toNat.toUInt8) = 63 from rfl] at hib
              cases hq63 : y.data.toList.contains 63
              · rw [idx_no 63 _ hq63] at hib
                have hr := Lib.hid (restL_of (tl := y.data.toList) y ⟨#[]⟩ (bef_no 63 _ hq63).symm (by rw [bef_no 63 _ hq63, List.drop_eq_nil_of_le (by omega)]))
                clear hq63
                go_wp2_with fail
                rw [hyh.out]
                refine (hib _).mono ?_
                rintro e w4 ⟨rfl, rfl⟩
                go_wp2_with fail
                have hsP := fun w' => refSendable y w' (by omega)
                cases e1 : y.data.toList.all sendB
                · rw [e1] at hsP
                  have hv5 := Lib.hid (show urlParseP s.data.toList = .error 3 by rw [hv4.out, hr.out, e1]; rfl)
                  clear e1 hr
                  refine (hsP _).mono ?_
                  rintro e w5 ⟨rfl, rfl⟩
                  have d0 := hZ2.out.d0
                  have d1 := hZ2.out.d1
                  have d2 := hZ2.out.d2
                  have d3 := hZ2.out.d3
                  have d4 := hZ2.out.d4
                  have f0 := hZ2.out.f 0
                  have f1 := hZ2.out.f 1
                  have f2 := hZ2.out.f 2
                  have f3 := hZ2.out.f 3
                  have f4 := hZ2.out.f 4
                  go_wp2
                  obtain ⟨e0, e1, e2, e3, e4⟩ := set_5 (.bool false) (.string ⟨#[]⟩) (.int .i64 0) (.string ⟨#[]⟩) (.string ⟨#[]⟩) d0 d1 d2 d3 d4
                  refine bodyPost_ret (v := .tuple #[.agg #[.bool false, .string ⟨#[]⟩, .int .i64 0, .string ⟨#[]⟩, .string ⟨#[]⟩], .int .i64 3]) (by simp [results, Tryz.results4, go_sem, e0, e1, e2, e3, e4]; try rfl) rfl ⟨by rw [urlV_error hv5.out], below_set5 hZ2.out.low (Nat.le_refl _)⟩
                · have hsQ := fun w' => refSendable (⟨#[]⟩ : ByteArray) w' (by first | (decide) | omega)
                  rw [e1] at hsP
                  cases e2 : (⟨#[]⟩ : ByteArray).data.toList.all sendB
                  · rw [e2] at hsQ
                    have hv5 := Lib.hid (show urlParseP s.data.toList = .error 3 by rw [hv4.out, hr.out, e1, e2]; rfl)
                    clear e1 e2 hr
                    refine (hsP _).mono ?_
                    rintro e w5 ⟨rfl, rfl⟩
                    go_wp2_with fail
                    refine (hsQ _).mono ?_
                    rintro e w5 ⟨rfl, rfl⟩
                    have d0 := hZ2.out.d0
                    have d1 := hZ2.out.d1
                    have d2 := hZ2.out.d2
                    have d3 := hZ2.out.d3
                    have d4 := hZ2.out.d4
                    have f0 := hZ2.out.f 0
                    have f1 := hZ2.out.f 1
                    have f2 := hZ2.out.f 2
                    have f3 := hZ2.out.f 3
                    have f4 := hZ2.out.f 4
                    go_wp2
                    obtain ⟨e0, e1, e2, e3, e4⟩ := set_5 (.bool false) (.string ⟨#[]⟩) (.int .i64 0) (.string ⟨#[]⟩) (.string ⟨#[]⟩) d0 d1 d2 d3 d4
                    refine bodyPost_ret (v := .tuple #[.agg #[.bool false, .string ⟨#[]⟩, .int .i64 0, .string ⟨#[]⟩, .string ⟨#[]⟩], .int .i64 3]) (by simp [results, Tryz.results4, go_sem, e0, e1, e2, e3, e4]; try rfl) rfl ⟨by rw [urlV_error hv5.out], below_set5 hZ2.out.low (Nat.le_refl _)⟩
                  · rw [e2] at hsQ
                    have hcl := fun w' hM => refClean y w' hM (by omega)
                    obtain ⟨C, hC⟩ : ∃ C : ByteArray, cleanB y = C := ⟨_, rfl⟩
                    rw [hC] at hcl
                    have hv5 := Lib.hid (show urlParseP s.data.toList = joinO (some (sec, h, n)) (if 200 < C.size then .error 2 else .ok (C, (⟨#[]⟩ : ByteArray).data.toList)) by rw [hv4.out, hr.out, e1, e2, hC]; rfl)
                    clear e1 e2 hr hC
                    refine (hsP _).mono ?_
                    rintro e w5 ⟨rfl, rfl⟩
                    go_wp2_with fail
                    refine (hsQ _).mono ?_
                    rintro e w5 ⟨rfl, rfl⟩
                    go_wp2_with fail
                    refine (hcl _ (hM.later hZ2.out.low)).mono ?_
                    rintro e w6 ⟨rfl, hB6⟩
                    have hZ6 := Lib.hid (hZ2.out.later hB6)
                    by_cases h200 : 200 < C.size
                    · have hv6 := Lib.hid (show urlParseP s.data.toList = .error 2 by rw [hv5.out, if_pos h200]; rfl)
                      clear hcl hsP hsQ
                      have d0 := hZ6.out.d0
                      have d1 := hZ6.out.d1
                      have d2 := hZ6.out.d2
                      have d3 := hZ6.out.d3
                      have d4 := hZ6.out.d4
                      have f0 := hZ6.out.f 0
                      have f1 := hZ6.out.f 1
                      have f2 := hZ6.out.f 2
                      have f3 := hZ6.out.f 3
                      have f4 := hZ6.out.f 4
                      go_wp2
                      obtain ⟨e0, e1, e2, e3, e4⟩ := set_5 (.bool false) (.string ⟨#[]⟩) (.int .i64 0) (.string ⟨#[]⟩) (.string ⟨#[]⟩) d0 d1 d2 d3 d4
                      refine bodyPost_ret (v := .tuple #[.agg #[.bool false, .string ⟨#[]⟩, .int .i64 0, .string ⟨#[]⟩, .string ⟨#[]⟩], .int .i64 2]) (by simp [results, Tryz.results4, go_sem, e0, e1, e2, e3, e4]; try rfl) rfl ⟨by rw [urlV_error hv6.out], below_set5 hZ6.out.low (Nat.le_refl _)⟩
                    · have hov : Hid (urlV (urlParseP s.data.toList) (.int .i64 0) (fun x => .int .i64 x) = .tuple #[.agg #[.bool sec, .string H, .int .i64 n, .string C, .string (⟨#[]⟩ : ByteArray)], .int .i64 0]) := Lib.hid ((urlV_ok (show urlParseP s.data.toList = .ok ((sec, h, n), C, (⟨#[]⟩ : ByteArray).data.toList) by rw [hv5.out, if_neg h200]; rfl)).trans (by rw [hHh.out, ba_eta]))
                      have hO6 := hO.out.then (by simp) hB6
                      have o0 := box_cell hO6 0 rfl
                      have o1 := box_cell hO6 1 rfl
                      have o2 := box_cell hO6 2 rfl
                      clear hcl hsP hsQ hO6
                      have d0 := hZ6.out.d0
                      have d1 := hZ6.out.d1
                      have d2 := hZ6.out.d2
                      have d3 := hZ6.out.d3
                      have d4 := hZ6.out.d4
                      have f0 := hZ6.out.f 0
                      have f1 := hZ6.out.f 1
                      have f2 := hZ6.out.f 2
                      have f3 := hZ6.out.f 3
                      have f4 := hZ6.out.f 4
                      go_wp2
                      obtain ⟨e0, e1, e2, e3, e4⟩ := set_5 (.bool sec) (.string H) (.int .i64 n) (.string C) (.string (⟨#[]⟩ : ByteArray)) d0 d1 d2 d3 d4
                      refine bodyPost_ret (v := .tuple #[.agg #[.bool sec, .string H, .int .i64 n, .string C, .string (⟨#[]⟩ : ByteArray)], .int .i64 0]) (by simp [results, Tryz.results4, go_sem, e0, e1, e2, e3, e4]; try rfl) rfl ⟨by rw [hov.out], below_set5 hZ6.out.low (Nat.le_refl _)⟩
              · rw [idx_has 63 _ hq63] at hib
                have hj2l := bef_lt 63 _ hq63
                rw [← sz_len] at hj2l
                obtain ⟨j2, hj2⟩ : ∃ j2 : Nat, j2 = (befL 63 y.data.toList).length := ⟨_, rfl⟩
                rw [← hj2] at hib hj2l
                obtain ⟨P, hP⟩ : ∃ P : ByteArray, y.extract 0 j2 = P := ⟨_, rfl⟩
                obtain ⟨Q, hQ⟩ : ∃ Q : ByteArray, y.extract (j2 + 1) y.size = Q := ⟨_, rfl⟩
                have hr := Lib.hid (restL_of (tl := y.data.toList) P Q (by rw [← hP, Lib.extract_data, hj2]; simpa using bef_take 63 y.data.toList) (by rw [← hQ, Lib.extract_to_end, hj2]))
                have hPs : P.size ≤ 100000 := by rw [← hP, ByteArray.size_extract]; omega
                have hQs : Q.size ≤ 100000 := by rw [← hQ, ByteArray.size_extract]; omega
                have hPh := Lib.hid hP
                have hQh := Lib.hid hQ
                clear hq63 hj2 hP hQ
                go_wp2_with fail
                rw [hyh.out]
                refine (hib _).mono ?_
                rintro e w4 ⟨rfl, rfl⟩
                go_wp2_with fail
                go_quiet (fail)
                have hZd := Lib.hid (hZ2.out.drawn nq)
                have hOd := Lib.hid (below_drewN hO.out nq)
                go_wp2_with fail
                rw [hPh.out]
                have hsP := fun w' => refSendable P w' (by omega)
                cases e1 : P.data.toList.all sendB
                · rw [e1] at hsP
                  have hv5 := Lib.hid (show urlParseP s.data.toList = .error 3 by rw [hv4.out, hr.out, e1]; rfl)
                  clear e1 hr
                  refine (hsP _).mono ?_
                  rintro e w5 ⟨rfl, rfl⟩
                  have d0 := hZd.out.d0
                  have d1 := hZd.out.d1
                  have d2 := hZd.out.d2
                  have d3 := hZd.out.d3
                  have d4 := hZd.out.d4
                  have f0 := hZd.out.f 0
                  have f1 := hZd.out.f 1
                  have f2 := hZd.out.f 2
                  have f3 := hZd.out.f 3
                  have f4 := hZd.out.f 4
                  go_wp2
                  obtain ⟨e0, e1, e2, e3, e4⟩ := set_5 (.bool false) (.string ⟨#[]⟩) (.int .i64 0) (.string ⟨#[]⟩) (.string ⟨#[]⟩) d0 d1 d2 d3 d4
                  refine bodyPost_ret (v := .tuple #[.agg #[.bool false, .string ⟨#[]⟩, .int .i64 0, .string ⟨#[]⟩, .string ⟨#[]⟩], .int .i64 3]) (by simp [results, Tryz.results4, go_sem, e0, e1, e2, e3, e4]; try rfl) rfl ⟨by rw [urlV_error hv5.out], below_set5 hZd.out.low (Nat.le_refl _)⟩
                · have hsQ := fun w' => refSendable Q w' (by first | (decide) | omega)
                  rw [e1] at hsP
                  cases e2 : Q.data.toList.all sendB
                  · rw [e2] at hsQ
                    have hv5 := Lib.hid (show urlParseP s.data.toList = .error 3 by rw [hv4.out, hr.out, e1, e2]; rfl)
                    clear e1 e2 hr
                    refine (hsP _).mono ?_
                    rintro e w5 ⟨rfl, rfl⟩
                    go_wp2_with fail
                    (try rw [hQh.out])
                    refine (hsQ _).mono ?_
                    rintro e w5 ⟨rfl, rfl⟩
                    have d0 := hZd.out.d0
                    have d1 := hZd.out.d1
                    have d2 := hZd.out.d2
                    have d3 := hZd.out.d3
                    have d4 := hZd.out.d4
                    have f0 := hZd.out.f 0
                    have f1 := hZd.out.f 1
                    have f2 := hZd.out.f 2
                    have f3 := hZd.out.f 3
                    have f4 := hZd.out.f 4
                    go_wp2
                    obtain ⟨e0, e1, e2, e3, e4⟩ := set_5 (.bool false) (.string ⟨#[]⟩) (.int .i64 0) (.string ⟨#[]⟩) (.string ⟨#[]⟩) d0 d1 d2 d3 d4
                    refine bodyPost_ret (v := .tuple #[.agg #[.bool false, .string ⟨#[]⟩, .int .i64 0, .string ⟨#[]⟩, .string ⟨#[]⟩], .int .i64 3]) (by simp [results, Tryz.results4, go_sem, e0, e1, e2, e3, e4]; try rfl) rfl ⟨by rw [urlV_error hv5.out], below_set5 hZd.out.low (Nat.le_refl _)⟩
                  · rw [e2] at hsQ
                    have hcl := fun w' hM => refClean P w' hM (by omega)
                    obtain ⟨C, hC⟩ : ∃ C : ByteArray, cleanB P = C := ⟨_, rfl⟩
                    rw [hC] at hcl
                    have hv5 := Lib.hid (show urlParseP s.data.toList = joinO (some (sec, h, n)) (if 200 < C.size then .error 2 else .ok (C, Q.data.toList)) by rw [hv4.out, hr.out, e1, e2, hC]; rfl)
                    clear e1 e2 hr hC
                    refine (hsP _).mono ?_
                    rintro e w5 ⟨rfl, rfl⟩
                    go_wp2_with fail
                    (try rw [hQh.out])
                    refine (hsQ _).mono ?_
                    rintro e w5 ⟨rfl, rfl⟩
                    go_wp2_with fail
                    (try rw [hPh.out])
                    refine (hcl _ (hM.later hZd.out.low)).mono ?_
                    rintro e w6 ⟨rfl, hB6⟩
                    have hZ6 := Lib.hid (hZd.out.later hB6)
                    by_cases h200 : 200 < C.size
                    · have hv6 := Lib.hid (show urlParseP s.data.toList = .error 2 by rw [hv5.out, if_pos h200]; rfl)
                      clear hcl hsP hsQ
                      have d0 := hZ6.out.d0
                      have d1 := hZ6.out.d1
                      have d2 := hZ6.out.d2
                      have d3 := hZ6.out.d3
                      have d4 := hZ6.out.d4
                      have f0 := hZ6.out.f 0
                      have f1 := hZ6.out.f 1
                      have f2 := hZ6.out.f 2
                      have f3 := hZ6.out.f 3
                      have f4 := hZ6.out.f 4
                      go_wp2
                      obtain ⟨e0, e1, e2, e3, e4⟩ := set_5 (.bool false) (.string ⟨#[]⟩) (.int .i64 0) (.string ⟨#[]⟩) (.string ⟨#[]⟩) d0 d1 d2 d3 d4
                      refine bodyPost_ret (v := .tuple #[.agg #[.bool false, .string ⟨#[]⟩, .int .i64 0, .string ⟨#[]⟩, .string ⟨#[]⟩], .int .i64 2]) (by simp [results, Tryz.results4, go_sem, e0, e1, e2, e3, e4]; try rfl) rfl ⟨by rw [urlV_error hv6.out], below_set5 hZ6.out.low (Nat.le_refl _)⟩
                    · have hov : Hid (urlV (urlParseP s.data.toList) (.int .i64 0) (fun x => .int .i64 x) = .tuple #[.agg #[.bool sec, .string H, .int .i64 n, .string C, .string Q], .int .i64 0]) := Lib.hid ((urlV_ok (show urlParseP s.data.toList = .ok ((sec, h, n), C, Q.data.toList) by rw [hv5.out, if_neg h200]; rfl)).trans (by rw [hHh.out, ba_eta]))
                      have hO6 := hOd.out.then (by simp) hB6
                      have o0 := box_cell hO6 0 rfl
                      have o1 := box_cell hO6 1 rfl
                      have o2 := box_cell hO6 2 rfl
                      clear hcl hsP hsQ hO6
                      have d0 := hZ6.out.d0
                      have d1 := hZ6.out.d1
                      have d2 := hZ6.out.d2
                      have d3 := hZ6.out.d3
                      have d4 := hZ6.out.d4
                      have f0 := hZ6.out.f 0
                      have f1 := hZ6.out.f 1
                      have f2 := hZ6.out.f 2
                      have f3 := hZ6.out.f 3
                      have f4 := hZ6.out.f 4
                      go_wp2
                      obtain ⟨e0, e1, e2, e3, e4⟩ := set_5 (.bool sec) (.string H) (.int .i64 n) (.string C) (.string Q) d0 d1 d2 d3 d4
                      refine bodyPost_ret (v := .tuple #[.agg #[.bool sec, .string H, .int .i64 n, .string C, .string Q], .int .i64 0]) (by simp [results, Tryz.results4, go_sem, e0, e1, e2, e3, e4]; try rfl) rfl ⟨by rw [hov.out], below_set5 hZ6.out.low (Nat.le_refl _)⟩
end Go.Proofs.YthmkilglidfdiaaGreatDoor
