/- The reference's OriginParse. -/
import Derived.Test.YtinlahahbhpppaaUrlQ
namespace Go.Proofs.Ytinlahahbhpppaa
open Go.RowKit
theorem PL.sec {w W : World} {p : Nat} {x0 x1 x2 : Value} (h : PL w W p x0 x1 x2) (v : Value) : PL w (W.setCell ⟨p, 0, none⟩ v) p v x1 x2 :=
  ⟨h.low.setCell h.le _, h.ne, h.le, by simpa [World.setCell] using h.bs, by simpa [World.setCell] using h.ps, same_cell h.c0, (World.cell?_setCell_other _ _ _ _ (by simp)).trans h.c1, (World.cell?_setCell_other _ _ _ _ (by simp)).trans h.c2,
    fun i => (World.frozen?_setCell _ _ _ _).trans (h.g i), (h.oth _ _ _).trans h.d0, (h.oth _ _ _).trans h.d1, (h.oth _ _ _).trans h.d2, fun i => (World.frozen?_setCell _ _ _ _).trans (h.f i)⟩
theorem originP_of {l r h : List UInt8} {sec : Bool} {n : Int} (h1 : schemeL l = some (sec, r)) (h2 : placeL sec r = some (h, n)) : originP l = if (hostOk h && portOk n) = true then some (sec, h, n) else none := by
  unfold originP; rw [h1]; simp only []; rw [h2]
theorem originP_no {l r : List UInt8} {sec : Bool} (h1 : schemeL l = some (sec, r)) (h2 : placeL sec r = none) : originP l = none := by
  unfold originP; rw [h1]; simp only []; rw [h2]
theorem ba_eta (H : ByteArray) : (⟨H.data.toList.toArray⟩ : ByteArray) = H := by cases H; simp
theorem pl_port {w W : World} {p : Nat} {x0 x1 x2 : Value} {n m : Int} (h : PL w W p x0 x1 x2) (e : n = m) : PL w (W.setCell ⟨p, 2, none⟩ (.int .i64 n)) p x0 x1 (.int .i64 m) := by
  subst e; exact h.port _
set_option maxRecDepth 100000 in
set_option maxHeartbeats 4000000 in
set_option linter.unusedVariables false in
theorem refOrigin (s : ByteArray) (w : World) (hM : MaxL w) (hs : s.size ≤ 1000000) :
    Calls Try.prog 10 #[.string s] w fun e w' => e = .returned (orV (originP s.data.toList) (.int .i64 0) (.int .i64 3)) ∧ Below w.heap.size w w' := by
  have hPL : Hid (PL w _ (w.heap.size + 1) (.bool false) (.string ⟨#[]⟩) (.int .i64 0)) := Lib.hid (by simpa using PL.start (w1 := w.alloc (Obj.cells #[.bool false, .string ⟨#[]⟩, .int .i64 0] 27)) (Below.refl _ _) (by simp))
  have hsl : s.data.toList.length ≤ 1000000 := by rw [← sz_len]; exact hs
  obtain ⟨m, hm⟩ := hM.later hPL.out.low
  have hix := Try.strings_Index s (⟨#[58, 47, 47]⟩ : ByteArray) m _ (by omega) hm
  rw [show ((⟨#[58, 47, 47]⟩ : ByteArray) : ByteArray).data.toList = [58, 47, 47] from rfl] at hix
  clear hm
  go_enter Try.func10, Try.ntmps10
  rcases Lib.index_spec s.data.toList [58, 47, 47] with ⟨hi, _⟩ | ⟨i, hi, hil, hio, _⟩
  · rw [hi] at hix
    have hv := Lib.hid (show originP s.data.toList = none by unfold originP; rw [← scheme_same, refSchemeL, hi, if_pos (by decide)])
    clear hi
    have d0 := hPL.out.d0
    have d1 := hPL.out.d1
    have d2 := hPL.out.d2
    have f0 := hPL.out.f 0
    have f1 := hPL.out.f 1
    have f2 := hPL.out.f 2
    have t0 := hPL.out.c0
    have t1 := hPL.out.c1
    have t2 := hPL.out.c2
    go_wp2_with fail
    refine hix.mono ?_
    rintro e w1 ⟨rfl, rfl⟩
    go_wp2
    refine bodyPost_ret (v := .tuple #[.agg #[.bool false, .string ⟨#[]⟩, .int .i64 0], .int .i64 3]) (by simp [results, Try.results10, go_sem, d0, d1, d2]; try rfl) rfl ⟨by rw [orV_none hv.out], hPL.out.low⟩
  · rw [hi] at hix
    have hi3 : i + 3 ≤ s.size := by
      rw [sz_len]
      rcases Lib.occAt_room hio with h | h
      · exact h
      · cases h
    have hsch : schemeL s.data.toList = refSch (s.data.toList.take i) (s.data.toList.drop (i + 3)) := by rw [← scheme_same, refSchemeL, hi, if_neg (by omega), Int.toNat_natCast]
    have hlw := fun w' => refLower (s.extract 0 i) w' (by rw [ByteArray.size_extract]; unfold maxLen; omega)
    have hex : (s.extract 0 i).data.toList = s.data.toList.take i := by rw [Lib.extract_data]; simp
    rw [hex] at hlw
    obtain ⟨T, hT⟩ : ∃ T : ByteArray, T = ⟨(lower (s.data.toList.take i)).toArray⟩ := ⟨_, rfl⟩
    rw [← hT] at hlw
    have hTl : T.data.toList = lower (s.data.toList.take i) := by rw [hT, mk_toList]
    clear hT hi hex
    go_wp2_with fail
    refine hix.mono ?_
    rintro e w1 ⟨rfl, rfl⟩
    go_wp2_with fail
    refine (hlw _).mono ?_
    rintro e w2 ⟨rfl, hB2⟩
    have hP2 := Lib.hid (hPL.out.later hB2)
    have hRs : (s.extract (i + 3) s.size).size ≤ 1000000 := by rw [ByteArray.size_extract]; omega
    have hRl : (s.extract (i + 3) s.size).data.toList = s.data.toList.drop (i + 3) := by rw [Lib.extract_to_end]
    have k4 : (T.toList == [104, 116, 116, 112]) = decide (lower (s.data.toList.take i) = [104, 116, 116, 112]) := by rw [Lib.toList_data, hTl]; exact Bool.beq_eq_decide_eq _ _
    have k5 : (T.toList == [104, 116, 116, 112, 115]) = decide (lower (s.data.toList.take i) = [104, 116, 116, 112, 115]) := by rw [Lib.toList_data, hTl]; exact Bool.beq_eq_decide_eq _ _
    obtain ⟨R, hR⟩ : ∃ R : ByteArray, s.extract (i + 3) s.size = R := ⟨_, rfl⟩
    rw [hR] at hRs hRl
    have hRh := Lib.hid hR
    clear hR hil hio hsl
    by_cases h4 : lower (s.data.toList.take i) = [104, 116, 116, 112]
    · rw [decide_eq_true h4] at k4
      have kk := k5
      clear k5
      have hsc := Lib.hid (show schemeL s.data.toList = some (false, R.data.toList) by rw [hsch, hRl]; unfold refSch; rw [if_pos h4])
      clear hsch hTl kk
      have t0 := hP2.out.c0
      have t2 := hP2.out.c2
      have g2 := hP2.out.g 2
      clear hB2
      go_wp2_with fail
      refine (refPort false _).mono ?_
      rintro e w3 ⟨rfl, hB3⟩
      rw [hRh.out]
      have hPb := Lib.hid (hP2.out.later hB3)
      have b2 := hPb.out.c2
      have bg := hPb.out.g 2
      have hPc := Lib.hid (hPb.out.port (.int .i64 (portOf false)))
      have c2 := hPc.out.c2
      have cg := hPc.out.g 2
      clear hB3
      cases hc : R.data.toList.contains 58
      · have hib := fun w' => Try.strings_IndexByte R 58 w'
        rw [show ((58 : Int).toNat.toUInt8) = 58 from rfl, idx_no 58 _ hc] at hib
        go_wp2_with fail
        refine (hib _).mono ?_
        rintro e w4 ⟨rfl, rfl⟩
        have hlw3 := fun w' => refLower R w' (by unfold maxLen; omega)
        obtain ⟨H, hH⟩ : ∃ H : ByteArray, H = ⟨(lower R.data.toList).toArray⟩ := ⟨_, rfl⟩
        rw [← hH] at hlw3
        have hHl : H.data.toList = lower R.data.toList := by rw [hH, mk_toList]
        have hHs : H.size ≤ 1099511627776 := by rw [sz_len, hHl, lower_length, ← sz_len]; omega
        have hpl2 := Lib.hid (show placeL false R.data.toList = some (H.data.toList, portOf false) by rw [hHl]; exact by unfold placeL; rw [hc]; rfl)
        clear hH hHl
        go_wp2_with fail
        refine (hlw3 _).mono ?_
        rintro e w5 ⟨rfl, hB5⟩
        have hPx := Lib.hid (hPc.out.later hB5)
        have q1 := hPx.out.c1
        have r1 := hPx.out.g 1
        have hPy := Lib.hid (hPx.out.host (.string H))
        have u0 := hPy.out.c0
        have u1 := hPy.out.c1
        have u2 := hPy.out.c2
        go_wp2_with fail
        refine (refOriginRight false H (portOf false) hHs _).mono ?_
        rintro e w6 ⟨rfl, hB6⟩
        have hPz := Lib.hid (hPy.out.later hB6)
        clear hPx hPy hB5 hB6 u0 u1 u2 q1 r1 hlw3
        have v0 := hPz.out.c0
        have v1 := hPz.out.c1
        have v2 := hPz.out.c2
        have hor := Lib.hid (originP_of hsc.out hpl2.out)
        cases hok : hostOk H.data.toList && portOk (portOf false)
        · rw [hok] at hor
          have d0 := hPz.out.d0
          have d1 := hPz.out.d1
          have d2 := hPz.out.d2
          have f0 := hPz.out.f 0
          have f1 := hPz.out.f 1
          have f2 := hPz.out.f 2
          go_wp2
          obtain ⟨e0, e1, e2⟩ := set_3 (.bool false) (.string ⟨#[]⟩) (.int .i64 0) d0 d1 d2
          refine bodyPost_ret (v := .tuple #[.agg #[(.bool false), (.string ⟨#[]⟩), (.int .i64 0)], .int .i64 3]) (by simp [results, Try.results10, go_sem, e0, e1, e2]; try rfl) rfl ⟨by rw [orV_none hor.out], below_set3 hPz.out.low (Nat.le_refl _)⟩
        · rw [hok] at hor
          have hov : Hid (orV (originP s.data.toList) (.int .i64 0) (.int .i64 3) = .tuple #[.agg #[.bool false, .string H, .int .i64 (portOf false)], .int .i64 0]) := Lib.hid ((orV_some hor.out).trans (by rw [ba_eta]))
          have d0 := hPz.out.d0
          have d1 := hPz.out.d1
          have d2 := hPz.out.d2
          have f0 := hPz.out.f 0
          have f1 := hPz.out.f 1
          have f2 := hPz.out.f 2
          go_wp2
          obtain ⟨e0, e1, e2⟩ := set_3 (.bool false) (.string H) (.int .i64 (portOf false)) d0 d1 d2
          refine bodyPost_ret (v := .tuple #[.agg #[(.bool false), (.string H), (.int .i64 (portOf false))], .int .i64 0]) (by simp [results, Try.results10, go_sem, e0, e1, e2]; try rfl) rfl ⟨by rw [hov.out], below_set3 hPz.out.low (Nat.le_refl _)⟩
      · have hib := fun w' => Try.strings_IndexByte R 58 w'
        rw [show ((58 : Int).toNat.toUInt8) = 58 from rfl, idx_has 58 _ hc] at hib
        have hjl := bef_lt 58 _ hc
        rw [← sz_len] at hjl
        obtain ⟨j, hj⟩ : ∃ j : Nat, j = (befL 58 R.data.toList).length := ⟨_, rfl⟩
        rw [← hj] at hib hjl
        have hNl : (R.extract 0 j).data.toList = befL 58 R.data.toList := by rw [Lib.extract_data, hj]; simpa using bef_take 58 R.data.toList
        have hVl : (R.extract (j + 1) R.size).data.toList = R.data.toList.drop ((befL 58 R.data.toList).length + 1) := by rw [Lib.extract_to_end, hj]
        have hgood : Hid (placeL false R.data.toList = (portD (R.extract (j + 1) R.size).data.toList).map (fun n => (lower (R.extract 0 j).data.toList, n))) := Lib.hid (by unfold placeL; rw [hc, hVl, hNl]; rfl)
        have hNs : (R.extract 0 j).size ≤ 1000000 := by rw [ByteArray.size_extract]; omega
        have hVs : (R.extract (j + 1) R.size).size ≤ 1000000 := by rw [ByteArray.size_extract]; omega
        obtain ⟨N, hN⟩ : ∃ N : ByteArray, N = R.extract 0 j := ⟨_, rfl⟩
        obtain ⟨V, hV⟩ : ∃ V : ByteArray, V = R.extract (j + 1) R.size := ⟨_, rfl⟩
        rw [← hN, ← hV] at hgood
        rw [← hN] at hNs
        rw [← hV] at hVs
        clear hNl hVl hj hc
        have hVsz : Hid (V.size = R.size - (j + 1)) := Lib.hid (by rw [hV, ByteArray.size_extract]; omega)
        by_cases hw5 : 1 ≤ V.size ∧ V.size ≤ 5
        · have hw : (decide ((1 : Int) ≤ (V.size : Int)) && decide ((V.size : Int) ≤ 5)) = true := by simp; omega
          rw [hVsz.out] at hw
          have hin := fun w' => within_any ((R.size - (j + 1) : Nat) : Int) 1 5 w'
          rw [hw] at hin
          have hVh := Lib.hid hV
          have hNh := Lib.hid hN
          clear hw hV hN
          go_wp2_with fail
          refine (hib _).mono ?_
          rintro e w4 ⟨rfl, rfl⟩
          go_wp2_with fail
          refine (hin _).mono ?_
          rintro e w4 ⟨rfl, rfl⟩
          rw [← hVh.out, ← hNh.out]
          have hPq := Lib.hid (hPc.out.port (.int .i64 0))
          clear hin hib
          go_wp2
          go_loopw [53] (fun x wr => ∃ (k n : Nat), k ≤ V.size ∧ x = .int .i64 k ∧ n ≤ 100000 ∧ Hid (n = numD (V.data.toList.take k)) ∧ Hid ((V.data.toList.take k).all digB = true) ∧ Hid (PL w wr (w.heap.size + 1) (.bool false) (.string ⟨#[]⟩) (.int .i64 n))) (fun x _ => V.size - (intOf x).toNat)
          case atStart => exact ⟨0, 0, Nat.zero_le _, rfl, by decide, Lib.hid rfl, Lib.hid (by simp), hPq⟩
          case round =>
            obtain ⟨k, n, hk, rfl, hn, hnn, ha, hP⟩ := hrel
            clear hPq hPc hPb b2 bg c2 cg
            by_cases hlt : k < V.size
            · have hl : k < V.data.toList.length := by rw [← sz_len]; exact hlt
              have hc256 : (V[k].toNat : Int) < 256 := by have := V[k].toNat_lt; omega
              by_cases hd : 48 ≤ V[k].toNat ∧ V[k].toNat ≤ 57
              · obtain ⟨hd1, hd2⟩ := hd
                have i1 : (48 : Int) ≤ (V[k].toNat : Int) := by omega
                have i2 : (V[k].toNat : Int) ≤ 57 := by omega
                have hw : (decide ((48 : Int) ≤ (V[k].toNat : Int)) && decide ((V[k].toNat : Int) ≤ 57)) = true := by simp; omega
                have hin := fun w' => within_any (V[k].toNat : Int) 48 57 w'
                rw [hw] at hin
                have had : Hid ((V.data.toList.take (k + 1)).all digB = true) := Lib.hid (by
                  rw [List.take_succ_eq_append_getElem hl, List.all_append, ha.out, at_list V k hlt hl]; simp [digB, hd1, hd2])
                have hnext : Hid (numD (V.data.toList.take (k + 1)) = n * 10 + (V[k].toNat - 48)) := Lib.hid (by
                  rw [List.take_succ_eq_append_getElem hl, numD_snoc, at_list V k hlt hl, ← hnn.out])
                have hbnd : n * 10 + (V[k].toNat - 48) ≤ 100000 := by
                  rw [← hnext.out]
                  have h1 := numD_lt _ had.out
                  have h2 : (V.data.toList.take (k + 1)).length ≤ 5 := by rw [List.length_take, ← sz_len]; omega
                  have h3 := Nat.pow_le_pow_right (n := 10) (by decide) h2
                  omega
                have c2 := hP.out.c2
                have cg := hP.out.g 2
                go_wp2_with fail
                refine (hin _).mono ?_
                rintro e w7 ⟨rfl, rfl⟩
                go_wp2
                go_region
                all_goals
                  go_wp2
                  go_roundw
                  case rel => exact ⟨k + 1, n * 10 + (V[k].toNat - 48), by omega, by go_num, hbnd, Lib.hid hnext.out.symm, had, Lib.hid ((pl_port hP.out (by omega)).later (Below.refl _ _).drew)⟩
                  case measure => simp [intOf]; omega
              · have hw : (decide ((48 : Int) ≤ (V[k].toNat : Int)) && decide ((V[k].toNat : Int) ≤ 57)) = false := by simp; omega
                have hin := fun w' => within_any (V[k].toNat : Int) 48 57 w'
                rw [hw] at hin
                have hbad : Hid (originP s.data.toList = none) := Lib.hid (originP_no hsc.out (by
                  rw [hgood.out]
                  unfold portD
                  rw [if_neg]
                  · rfl
                  · intro h
                    have h3 := List.all_eq_true.1 h.2.2 V[k] (by rw [← at_list V k hlt hl]; exact List.getElem_mem _)
                    exact hd (of_decide_eq_true h3)))
                clear hw hd
                go_wp2_with fail
                refine (hin _).mono ?_
                rintro e w7 ⟨rfl, rfl⟩
                have d0 := hP.out.d0
                have d1 := hP.out.d1
                have d2 := hP.out.d2
                have f0 := hP.out.f 0
                have f1 := hP.out.f 1
                have f2 := hP.out.f 2
                go_wp2
                obtain ⟨e0, e1, e2⟩ := set_3 (.bool false) (.string ⟨#[]⟩) (.int .i64 0) d0 d1 d2
                refine bodyPost_ret (v := .tuple #[.agg #[(.bool false), (.string ⟨#[]⟩), (.int .i64 0)], .int .i64 3]) (by simp [results, Try.results10, go_sem, e0, e1, e2]; try rfl) rfl ⟨by rw [orV_none hbad.out], below_set3 hP.out.low (Nat.le_refl _)⟩
            · obtain rfl : V.size = k := by omega
              rw [show V.data.toList.take V.size = V.data.toList by rw [sz_len, List.take_length]] at hnn ha
              have hport : portD V.data.toList = some (n : Int) := by
                unfold portD
                rw [if_pos ⟨by intro h; rw [sz_len, h] at hw5; simp at hw5, by rw [← sz_len]; exact hw5.2, ha.out⟩, hnn.out]
              have hlw3 := fun w' => refLower N w' (by unfold maxLen; omega)
              obtain ⟨H, hH⟩ : ∃ H : ByteArray, H = ⟨(lower N.data.toList).toArray⟩ := ⟨_, rfl⟩
              rw [← hH] at hlw3
              have hHl : H.data.toList = lower N.data.toList := by rw [hH, mk_toList]
              have hHs : H.size ≤ 1099511627776 := by rw [sz_len, hHl, lower_length, ← sz_len]; omega
              have hpl2 := Lib.hid (show placeL false R.data.toList = some (H.data.toList, (n : Int)) by rw [hHl]; exact by rw [hgood.out, hport]; rfl)
              clear hH hHl
              go_wp2_with fail
              refine (hlw3 _).mono ?_
              rintro e w5 ⟨rfl, hB5⟩
              have hPx := Lib.hid (hP.out.later hB5)
              have q1 := hPx.out.c1
              have r1 := hPx.out.g 1
              have hPy := Lib.hid (hPx.out.host (.string H))
              have u0 := hPy.out.c0
              have u1 := hPy.out.c1
              have u2 := hPy.out.c2
              go_wp2_with fail
              refine (refOriginRight false H ((n : Int)) hHs _).mono ?_
              rintro e w6 ⟨rfl, hB6⟩
              have hPz := Lib.hid (hPy.out.later hB6)
              clear hPx hPy hB5 hB6 u0 u1 u2 q1 r1 hlw3
              have v0 := hPz.out.c0
              have v1 := hPz.out.c1
              have v2 := hPz.out.c2
              have hor := Lib.hid (originP_of hsc.out hpl2.out)
              cases hok : hostOk H.data.toList && portOk ((n : Int))
              · rw [hok] at hor
                have d0 := hPz.out.d0
                have d1 := hPz.out.d1
                have d2 := hPz.out.d2
                have f0 := hPz.out.f 0
                have f1 := hPz.out.f 1
                have f2 := hPz.out.f 2
                go_wp2
                obtain ⟨e0, e1, e2⟩ := set_3 (.bool false) (.string ⟨#[]⟩) (.int .i64 0) d0 d1 d2
                refine bodyPost_ret (v := .tuple #[.agg #[(.bool false), (.string ⟨#[]⟩), (.int .i64 0)], .int .i64 3]) (by simp [results, Try.results10, go_sem, e0, e1, e2]; try rfl) rfl ⟨by rw [orV_none hor.out], below_set3 hPz.out.low (Nat.le_refl _)⟩
              · rw [hok] at hor
                have hov : Hid (orV (originP s.data.toList) (.int .i64 0) (.int .i64 3) = .tuple #[.agg #[.bool false, .string H, .int .i64 ((n : Int))], .int .i64 0]) := Lib.hid ((orV_some hor.out).trans (by rw [ba_eta]))
                have d0 := hPz.out.d0
                have d1 := hPz.out.d1
                have d2 := hPz.out.d2
                have f0 := hPz.out.f 0
                have f1 := hPz.out.f 1
                have f2 := hPz.out.f 2
                go_wp2
                obtain ⟨e0, e1, e2⟩ := set_3 (.bool false) (.string H) (.int .i64 ((n : Int))) d0 d1 d2
                refine bodyPost_ret (v := .tuple #[.agg #[(.bool false), (.string H), (.int .i64 ((n : Int)))], .int .i64 0]) (by simp [results, Try.results10, go_sem, e0, e1, e2]; try rfl) rfl ⟨by rw [hov.out], below_set3 hPz.out.low (Nat.le_refl _)⟩
        · have hw : (decide ((1 : Int) ≤ (V.size : Int)) && decide ((V.size : Int) ≤ 5)) = false := by simp; omega
          rw [hVsz.out] at hw
          have hin := fun w' => within_any ((R.size - (j + 1) : Nat) : Int) 1 5 w'
          rw [hw] at hin
          have hbad : Hid (originP s.data.toList = none) := Lib.hid (originP_no hsc.out (by
            rw [hgood.out]
            unfold portD
            rw [if_neg]
            · rfl
            · intro h
              apply hw5
              rw [sz_len]
              exact ⟨by cases hq : V.data.toList with | nil => exact absurd hq h.1 | cons a l => simp, h.2.1⟩))
          clear hw hw5
          go_wp2_with fail
          refine (hib _).mono ?_
          rintro e w4 ⟨rfl, rfl⟩
          go_wp2_with fail
          refine (hin _).mono ?_
          rintro e w4 ⟨rfl, rfl⟩
          have d0 := hPc.out.d0
          have d1 := hPc.out.d1
          have d2 := hPc.out.d2
          have f0 := hPc.out.f 0
          have f1 := hPc.out.f 1
          have f2 := hPc.out.f 2
          go_wp2
          obtain ⟨e0, e1, e2⟩ := set_3 (.bool false) (.string ⟨#[]⟩) (.int .i64 0) d0 d1 d2
          refine bodyPost_ret (v := .tuple #[.agg #[(.bool false), (.string ⟨#[]⟩), (.int .i64 0)], .int .i64 3]) (by simp [results, Try.results10, go_sem, e0, e1, e2]; try rfl) rfl ⟨by rw [orV_none hbad.out], below_set3 hPc.out.low (Nat.le_refl _)⟩
    · rw [decide_eq_false h4] at k4
      by_cases h5 : lower (s.data.toList.take i) = [104, 116, 116, 112, 115]
      · rw [decide_eq_true h5] at k5
        have kk := k4
        have t0 := hP2.out.c0
        have g0 := hP2.out.g 0
        have hP3 := Lib.hid (hP2.out.sec (.bool true))
        have hsc := Lib.hid (show schemeL s.data.toList = some (true, R.data.toList) by rw [hsch, hRl]; unfold refSch; rw [if_neg h4, if_pos h5])
        clear hsch hTl
        have s0 := hP3.out.c0
        have t2 := hP3.out.c2
        have g2 := hP3.out.g 2
        clear hB2
        go_wp2_with fail
        refine (refPort true _).mono ?_
        rintro e w3 ⟨rfl, hB3⟩
        rw [hRh.out]
        have hPb := Lib.hid (hP3.out.later hB3)
        have b2 := hPb.out.c2
        have bg := hPb.out.g 2
        have hPc := Lib.hid (hPb.out.port (.int .i64 (portOf true)))
        have c2 := hPc.out.c2
        have cg := hPc.out.g 2
        clear hB3
        cases hc : R.data.toList.contains 58
        · have hib := fun w' => Try.strings_IndexByte R 58 w'
          rw [show ((58 : Int).toNat.toUInt8) = 58 from rfl, idx_no 58 _ hc] at hib
          go_wp2_with fail
          refine (hib _).mono ?_
          rintro e w4 ⟨rfl, rfl⟩
          have hlw3 := fun w' => refLower R w' (by unfold maxLen; omega)
          obtain ⟨H, hH⟩ : ∃ H : ByteArray, H = ⟨(lower R.data.toList).toArray⟩ := ⟨_, rfl⟩
          rw [← hH] at hlw3
          have hHl : H.data.toList = lower R.data.toList := by rw [hH, mk_toList]
          have hHs : H.size ≤ 1099511627776 := by rw [sz_len, hHl, lower_length, ← sz_len]; omega
          have hpl2 := Lib.hid (show placeL true R.data.toList = some (H.data.toList, portOf true) by rw [hHl]; exact by unfold placeL; rw [hc]; rfl)
          clear hH hHl
          go_wp2_with fail
          refine (hlw3 _).mono ?_
          rintro e w5 ⟨rfl, hB5⟩
          have hPx := Lib.hid (hPc.out.later hB5)
          have q1 := hPx.out.c1
          have r1 := hPx.out.g 1
          have hPy := Lib.hid (hPx.out.host (.string H))
          have u0 := hPy.out.c0
          have u1 := hPy.out.c1
          have u2 := hPy.out.c2
          go_wp2_with fail
          refine (refOriginRight true H (portOf true) hHs _).mono ?_
          rintro e w6 ⟨rfl, hB6⟩
          have hPz := Lib.hid (hPy.out.later hB6)
          clear hPx hPy hB5 hB6 u0 u1 u2 q1 r1 hlw3
          have v0 := hPz.out.c0
          have v1 := hPz.out.c1
          have v2 := hPz.out.c2
          have hor := Lib.hid (originP_of hsc.out hpl2.out)
          cases hok : hostOk H.data.toList && portOk (portOf true)
          · rw [hok] at hor
            have d0 := hPz.out.d0
            have d1 := hPz.out.d1
            have d2 := hPz.out.d2
            have f0 := hPz.out.f 0
            have f1 := hPz.out.f 1
            have f2 := hPz.out.f 2
            go_wp2
            obtain ⟨e0, e1, e2⟩ := set_3 (.bool false) (.string ⟨#[]⟩) (.int .i64 0) d0 d1 d2
            refine bodyPost_ret (v := .tuple #[.agg #[(.bool false), (.string ⟨#[]⟩), (.int .i64 0)], .int .i64 3]) (by simp [results, Try.results10, go_sem, e0, e1, e2]; try rfl) rfl ⟨by rw [orV_none hor.out], below_set3 hPz.out.low (Nat.le_refl _)⟩
          · rw [hok] at hor
            have hov : Hid (orV (originP s.data.toList) (.int .i64 0) (.int .i64 3) = .tuple #[.agg #[.bool true, .string H, .int .i64 (portOf true)], .int .i64 0]) := Lib.hid ((orV_some hor.out).trans (by rw [ba_eta]))
            have d0 := hPz.out.d0
            have d1 := hPz.out.d1
            have d2 := hPz.out.d2
            have f0 := hPz.out.f 0
            have f1 := hPz.out.f 1
            have f2 := hPz.out.f 2
            go_wp2
            obtain ⟨e0, e1, e2⟩ := set_3 (.bool true) (.string H) (.int .i64 (portOf true)) d0 d1 d2
            refine bodyPost_ret (v := .tuple #[.agg #[(.bool true), (.string H), (.int .i64 (portOf true))], .int .i64 0]) (by simp [results, Try.results10, go_sem, e0, e1, e2]; try rfl) rfl ⟨by rw [hov.out], below_set3 hPz.out.low (Nat.le_refl _)⟩
        · have hib := fun w' => Try.strings_IndexByte R 58 w'
          rw [show ((58 : Int).toNat.toUInt8) = 58 from rfl, idx_has 58 _ hc] at hib
          have hjl := bef_lt 58 _ hc
          rw [← sz_len] at hjl
          obtain ⟨j, hj⟩ : ∃ j : Nat, j = (befL 58 R.data.toList).length := ⟨_, rfl⟩
          rw [← hj] at hib hjl
          have hNl : (R.extract 0 j).data.toList = befL 58 R.data.toList := by rw [Lib.extract_data, hj]; simpa using bef_take 58 R.data.toList
          have hVl : (R.extract (j + 1) R.size).data.toList = R.data.toList.drop ((befL 58 R.data.toList).length + 1) := by rw [Lib.extract_to_end, hj]
          have hgood : Hid (placeL true R.data.toList = (portD (R.extract (j + 1) R.size).data.toList).map (fun n => (lower (R.extract 0 j).data.toList, n))) := Lib.hid (by unfold placeL; rw [hc, hVl, hNl]; rfl)
          have hNs : (R.extract 0 j).size ≤ 1000000 := by rw [ByteArray.size_extract]; omega
          have hVs : (R.extract (j + 1) R.size).size ≤ 1000000 := by rw [ByteArray.size_extract]; omega
          obtain ⟨N, hN⟩ : ∃ N : ByteArray, N = R.extract 0 j := ⟨_, rfl⟩
          obtain ⟨V, hV⟩ : ∃ V : ByteArray, V = R.extract (j + 1) R.size := ⟨_, rfl⟩
          rw [← hN, ← hV] at hgood
          rw [← hN] at hNs
          rw [← hV] at hVs
          clear hNl hVl hj hc
          have hVsz : Hid (V.size = R.size - (j + 1)) := Lib.hid (by rw [hV, ByteArray.size_extract]; omega)
          by_cases hw5 : 1 ≤ V.size ∧ V.size ≤ 5
          · have hw : (decide ((1 : Int) ≤ (V.size : Int)) && decide ((V.size : Int) ≤ 5)) = true := by simp; omega
            rw [hVsz.out] at hw
            have hin := fun w' => within_any ((R.size - (j + 1) : Nat) : Int) 1 5 w'
            rw [hw] at hin
            have hVh := Lib.hid hV
            have hNh := Lib.hid hN
            clear hw hV hN
            go_wp2_with fail
            refine (hib _).mono ?_
            rintro e w4 ⟨rfl, rfl⟩
            go_wp2_with fail
            refine (hin _).mono ?_
            rintro e w4 ⟨rfl, rfl⟩
            rw [← hVh.out, ← hNh.out]
            have hPq := Lib.hid (hPc.out.port (.int .i64 0))
            clear hin hib
            go_wp2
            go_loopw [53] (fun x wr => ∃ (k n : Nat), k ≤ V.size ∧ x = .int .i64 k ∧ n ≤ 100000 ∧ Hid (n = numD (V.data.toList.take k)) ∧ Hid ((V.data.toList.take k).all digB = true) ∧ Hid (PL w wr (w.heap.size + 1) (.bool true) (.string ⟨#[]⟩) (.int .i64 n))) (fun x _ => V.size - (intOf x).toNat)
            case atStart => exact ⟨0, 0, Nat.zero_le _, rfl, by decide, Lib.hid rfl, Lib.hid (by simp), hPq⟩
            case round =>
              obtain ⟨k, n, hk, rfl, hn, hnn, ha, hP⟩ := hrel
              clear hPq hPc hPb b2 bg c2 cg
              by_cases hlt : k < V.size
              · have hl : k < V.data.toList.length := by rw [← sz_len]; exact hlt
                have hc256 : (V[k].toNat : Int) < 256 := by have := V[k].toNat_lt; omega
                by_cases hd : 48 ≤ V[k].toNat ∧ V[k].toNat ≤ 57
                · obtain ⟨hd1, hd2⟩ := hd
                  have i1 : (48 : Int) ≤ (V[k].toNat : Int) := by omega
                  have i2 : (V[k].toNat : Int) ≤ 57 := by omega
                  have hw : (decide ((48 : Int) ≤ (V[k].toNat : Int)) && decide ((V[k].toNat : Int) ≤ 57)) = true := by simp; omega
                  have hin := fun w' => within_any (V[k].toNat : Int) 48 57 w'
                  rw [hw] at hin
                  have had : Hid ((V.data.toList.take (k + 1)).all digB = true) := Lib.hid (by
                    rw [List.take_succ_eq_append_getElem hl, List.all_append, ha.out, at_list V k hlt hl]; simp [digB, hd1, hd2])
                  have hnext : Hid (numD (V.data.toList.take (k + 1)) = n * 10 + (V[k].toNat - 48)) := Lib.hid (by
                    rw [List.take_succ_eq_append_getElem hl, numD_snoc, at_list V k hlt hl, ← hnn.out])
                  have hbnd : n * 10 + (V[k].toNat - 48) ≤ 100000 := by
                    rw [← hnext.out]
                    have h1 := numD_lt _ had.out
                    have h2 : (V.data.toList.take (k + 1)).length ≤ 5 := by rw [List.length_take, ← sz_len]; omega
                    have h3 := Nat.pow_le_pow_right (n := 10) (by decide) h2
                    omega
                  have c2 := hP.out.c2
                  have cg := hP.out.g 2
                  go_wp2_with fail
                  refine (hin _).mono ?_
                  rintro e w7 ⟨rfl, rfl⟩
                  go_wp2
                  go_region
                  all_goals
                    go_wp2
                    go_roundw
                    case rel => exact ⟨k + 1, n * 10 + (V[k].toNat - 48), by omega, by go_num, hbnd, Lib.hid hnext.out.symm, had, Lib.hid ((pl_port hP.out (by omega)).later (Below.refl _ _).drew)⟩
                    case measure => simp [intOf]; omega
                · have hw : (decide ((48 : Int) ≤ (V[k].toNat : Int)) && decide ((V[k].toNat : Int) ≤ 57)) = false := by simp; omega
                  have hin := fun w' => within_any (V[k].toNat : Int) 48 57 w'
                  rw [hw] at hin
                  have hbad : Hid (originP s.data.toList = none) := Lib.hid (originP_no hsc.out (by
                    rw [hgood.out]
                    unfold portD
                    rw [if_neg]
                    · rfl
                    · intro h
                      have h3 := List.all_eq_true.1 h.2.2 V[k] (by rw [← at_list V k hlt hl]; exact List.getElem_mem _)
                      exact hd (of_decide_eq_true h3)))
                  clear hw hd
                  go_wp2_with fail
                  refine (hin _).mono ?_
                  rintro e w7 ⟨rfl, rfl⟩
                  have d0 := hP.out.d0
                  have d1 := hP.out.d1
                  have d2 := hP.out.d2
                  have f0 := hP.out.f 0
                  have f1 := hP.out.f 1
                  have f2 := hP.out.f 2
                  go_wp2
                  obtain ⟨e0, e1, e2⟩ := set_3 (.bool false) (.string ⟨#[]⟩) (.int .i64 0) d0 d1 d2
                  refine bodyPost_ret (v := .tuple #[.agg #[(.bool false), (.string ⟨#[]⟩), (.int .i64 0)], .int .i64 3]) (by simp [results, Try.results10, go_sem, e0, e1, e2]; try rfl) rfl ⟨by rw [orV_none hbad.out], below_set3 hP.out.low (Nat.le_refl _)⟩
              · obtain rfl : V.size = k := by omega
                rw [show V.data.toList.take V.size = V.data.toList by rw [sz_len, List.take_length]] at hnn ha
                have hport : portD V.data.toList = some (n : Int) := by
                  unfold portD
                  rw [if_pos ⟨by intro h; rw [sz_len, h] at hw5; simp at hw5, by rw [← sz_len]; exact hw5.2, ha.out⟩, hnn.out]
                have hlw3 := fun w' => refLower N w' (by unfold maxLen; omega)
                obtain ⟨H, hH⟩ : ∃ H : ByteArray, H = ⟨(lower N.data.toList).toArray⟩ := ⟨_, rfl⟩
                rw [← hH] at hlw3
                have hHl : H.data.toList = lower N.data.toList := by rw [hH, mk_toList]
                have hHs : H.size ≤ 1099511627776 := by rw [sz_len, hHl, lower_length, ← sz_len]; omega
                have hpl2 := Lib.hid (show placeL true R.data.toList = some (H.data.toList, (n : Int)) by rw [hHl]; exact by rw [hgood.out, hport]; rfl)
                clear hH hHl
                go_wp2_with fail
                refine (hlw3 _).mono ?_
                rintro e w5 ⟨rfl, hB5⟩
                have hPx := Lib.hid (hP.out.later hB5)
                have q1 := hPx.out.c1
                have r1 := hPx.out.g 1
                have hPy := Lib.hid (hPx.out.host (.string H))
                have u0 := hPy.out.c0
                have u1 := hPy.out.c1
                have u2 := hPy.out.c2
                go_wp2_with fail
                refine (refOriginRight true H ((n : Int)) hHs _).mono ?_
                rintro e w6 ⟨rfl, hB6⟩
                have hPz := Lib.hid (hPy.out.later hB6)
                clear hPx hPy hB5 hB6 u0 u1 u2 q1 r1 hlw3
                have v0 := hPz.out.c0
                have v1 := hPz.out.c1
                have v2 := hPz.out.c2
                have hor := Lib.hid (originP_of hsc.out hpl2.out)
                cases hok : hostOk H.data.toList && portOk ((n : Int))
                · rw [hok] at hor
                  have d0 := hPz.out.d0
                  have d1 := hPz.out.d1
                  have d2 := hPz.out.d2
                  have f0 := hPz.out.f 0
                  have f1 := hPz.out.f 1
                  have f2 := hPz.out.f 2
                  go_wp2
                  obtain ⟨e0, e1, e2⟩ := set_3 (.bool false) (.string ⟨#[]⟩) (.int .i64 0) d0 d1 d2
                  refine bodyPost_ret (v := .tuple #[.agg #[(.bool false), (.string ⟨#[]⟩), (.int .i64 0)], .int .i64 3]) (by simp [results, Try.results10, go_sem, e0, e1, e2]; try rfl) rfl ⟨by rw [orV_none hor.out], below_set3 hPz.out.low (Nat.le_refl _)⟩
                · rw [hok] at hor
                  have hov : Hid (orV (originP s.data.toList) (.int .i64 0) (.int .i64 3) = .tuple #[.agg #[.bool true, .string H, .int .i64 ((n : Int))], .int .i64 0]) := Lib.hid ((orV_some hor.out).trans (by rw [ba_eta]))
                  have d0 := hPz.out.d0
                  have d1 := hPz.out.d1
                  have d2 := hPz.out.d2
                  have f0 := hPz.out.f 0
                  have f1 := hPz.out.f 1
                  have f2 := hPz.out.f 2
                  go_wp2
                  obtain ⟨e0, e1, e2⟩ := set_3 (.bool true) (.string H) (.int .i64 ((n : Int))) d0 d1 d2
                  refine bodyPost_ret (v := .tuple #[.agg #[(.bool true), (.string H), (.int .i64 ((n : Int)))], .int .i64 0]) (by simp [results, Try.results10, go_sem, e0, e1, e2]; try rfl) rfl ⟨by rw [hov.out], below_set3 hPz.out.low (Nat.le_refl _)⟩
          · have hw : (decide ((1 : Int) ≤ (V.size : Int)) && decide ((V.size : Int) ≤ 5)) = false := by simp; omega
            rw [hVsz.out] at hw
            have hin := fun w' => within_any ((R.size - (j + 1) : Nat) : Int) 1 5 w'
            rw [hw] at hin
            have hbad : Hid (originP s.data.toList = none) := Lib.hid (originP_no hsc.out (by
              rw [hgood.out]
              unfold portD
              rw [if_neg]
              · rfl
              · intro h
                apply hw5
                rw [sz_len]
                exact ⟨by cases hq : V.data.toList with | nil => exact absurd hq h.1 | cons a l => simp, h.2.1⟩))
            clear hw hw5
            go_wp2_with fail
            refine (hib _).mono ?_
            rintro e w4 ⟨rfl, rfl⟩
            go_wp2_with fail
            refine (hin _).mono ?_
            rintro e w4 ⟨rfl, rfl⟩
            have d0 := hPc.out.d0
            have d1 := hPc.out.d1
            have d2 := hPc.out.d2
            have f0 := hPc.out.f 0
            have f1 := hPc.out.f 1
            have f2 := hPc.out.f 2
            go_wp2
            obtain ⟨e0, e1, e2⟩ := set_3 (.bool false) (.string ⟨#[]⟩) (.int .i64 0) d0 d1 d2
            refine bodyPost_ret (v := .tuple #[.agg #[(.bool false), (.string ⟨#[]⟩), (.int .i64 0)], .int .i64 3]) (by simp [results, Try.results10, go_sem, e0, e1, e2]; try rfl) rfl ⟨by rw [orV_none hbad.out], below_set3 hPc.out.low (Nat.le_refl _)⟩
      · rw [decide_eq_false h5] at k5
        have hv := Lib.hid (show originP s.data.toList = none by unfold originP; rw [hsch]; unfold refSch; rw [if_neg h4, if_neg h5])
        have d0 := hP2.out.d0
        have d1 := hP2.out.d1
        have d2 := hP2.out.d2
        have f0 := hP2.out.f 0
        have f1 := hP2.out.f 1
        have f2 := hP2.out.f 2
        go_wp2
        obtain ⟨e0, e1, e2⟩ := set_3 (.bool false) (.string ⟨#[]⟩) (.int .i64 0) d0 d1 d2
        refine bodyPost_ret (v := .tuple #[.agg #[(.bool false), (.string ⟨#[]⟩), (.int .i64 0)], .int .i64 3]) (by simp [results, Try.results10, go_sem, e0, e1, e2]; try rfl) rfl ⟨by rw [orV_none hv.out], below_set3 hP2.out.low (Nat.le_refl _)⟩
end Go.Proofs.Ytinlahahbhpppaa
