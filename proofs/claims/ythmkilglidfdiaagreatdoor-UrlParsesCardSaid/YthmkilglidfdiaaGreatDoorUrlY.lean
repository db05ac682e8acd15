/- url.Parse, out of a contract for strings.IndexAny. -/
import Derived.Test.YthmkilglidfdiaaGreatDoorUrlYP
import Derived.Test.YthmkilglidfdiaaGreatDoorClean
import Derived.Deep.DeepCutAuto
namespace Go.Proofs.YthmkilglidfdiaaGreatDoor
open Go.RowKit
theorem cut_fst (c : UInt8) (l : List UInt8) : (Lib.cut l [c]).1 = befL c l := by
  cases h : l.contains c
  · rw [cut_no h, bef_no c l h]
  · rw [cut_has h]
theorem cut_snd (c : UInt8) (l : List UInt8) : (Lib.cut l [c]).2.1 = l.drop ((befL c l).length + 1) := by
  cases h : l.contains c
  · rw [cut_no h, bef_no c l h, List.drop_eq_nil_of_le (by omega)]
  · rw [cut_has h]
theorem cutQ (y : ByteArray) (w : World) (hM : MaxL w) (hs : y.size ≤ 1000000) :
    Calls Tryz.prog 13 #[.string y, .string ⟨#[63]⟩] w fun e w' => e = .returned (.tuple #[.string ⟨(befL 63 y.data.toList).toArray⟩, .string ⟨(y.data.toList.drop ((befL 63 y.data.toList).length + 1)).toArray⟩, .bool (Lib.cut y.data.toList [63]).2.2]) ∧ ∃ n, w' = w.drewN n := by
  obtain ⟨m, hm⟩ := hM
  have h := Tryz.strings_Cut y ⟨#[63]⟩ m w (by omega) hm
  rw [show (⟨#[63]⟩ : ByteArray).data.toList = [63] from rfl, cut_fst, cut_snd] at h
  exact h
set_option maxRecDepth 100000 in
theorem urlPath (s : ByteArray) (w : World) (hs : s.size ≤ 1000000) (hh : ∃ l, s.data.toList = 47 :: l) :
    Calls Tryz.prog 17 #[.string s] w fun e w' => e = .returned (.bool (s.data.toList.all sendB)) ∧ Below w.heap.size w w' := by
  obtain ⟨l, hl⟩ := hh
  have hpf := fun w' => Tryz.strings_HasPrefix s ⟨#[47]⟩ w'
  rw [show Lib.hasPrefix s.data.toList (⟨#[47]⟩ : ByteArray).data.toList = true by rw [hl]; simp [Lib.hasPrefix, List.isPrefixOf]] at hpf
  have hpl := fun w' => urlPlain s w' hs
  obtain ⟨b, hb⟩ : ∃ b, s.data.toList.all sendB = b := ⟨_, rfl⟩
  rw [hb] at hpl ⊢
  clear hb hl
  go_enter Tryz.func17, Tryz.ntmps17
  go_wp2_with fail
  refine (hpf _).mono ?_
  rintro e w1 ⟨rfl, rfl⟩
  go_wp2_with fail
  refine (hpl _).mono ?_
  rintro e w2 ⟨rfl, hB2⟩
  go_wp2
  go_ret
  exact ⟨rfl, hB2⟩
set_option maxRecDepth 100000 in
set_option maxHeartbeats 20000000 in
set_option linter.unusedVariables false in
theorem urlParse_of (hIA : ∀ (s : ByteArray) (w : World), s.size ≤ 1000000 → Calls Tryz.prog 15 #[.string s, .string ⟨#[47, 63]⟩] w fun e w' => e = .returned (.int .i64 (Lib.indexAny s.data.toList [47, 63])) ∧ Below w.heap.size w w')
    (s : ByteArray) (w : World) (hM : MaxL w) (hs : s.size ≤ 1000000) :
    Calls Tryz.prog 5 #[.string s] w fun e w' => e = .returned (urlV (urlParseP s.data.toList) .nilIface (fun x => .iface 26 (.int .i64 x))) ∧ Below w.heap.size w w' := by
  have hZ := Lib.hid (ZU.start w)
  have hsl : s.data.toList.length ≤ 1000000 := by rw [← sz_len]; exact hs
  go_enter Tryz.func5, Tryz.ntmps5
  by_cases h3 : 3000 < s.size
  · have hv := Lib.hid (show urlParseP s.data.toList = .error 4 by unfold urlParseP; rw [if_pos (by rw [← sz_len]; exact h3)])
    have d0 := hZ.out.d0
    have d1 := hZ.out.d1
    have d2 := hZ.out.d2
    have d3 := hZ.out.d3
    have d4 := hZ.out.d4
    have f0 := hZ.out.f 0
    have f1 := hZ.out.f 1
    have f2 := hZ.out.f 2
    have f3 := hZ.out.f 3
    have f4 := hZ.out.f 4
    go_wp2
    refine bodyPost_ret (v := .tuple #[.agg #[.bool false, .string ⟨#[]⟩, .int .i64 0, .string ⟨#[]⟩, .string ⟨#[]⟩], .iface 26 (.int .i64 4)]) (by simp [results, Tryz.results5, go_sem, d0, d1, d2, d3, d4]; try rfl) rfl ⟨by rw [urlV_error hv.out], hZ.out.low⟩
  · have hv := Lib.hid (show urlParseP s.data.toList = urlT (befL 35 s.data.toList) by unfold urlParseP; rw [if_neg (by rw [← sz_len]; exact h3)])
    obtain ⟨m, hm⟩ := hM.later hZ.out.low
    have hcut := Tryz.strings_Cut s ⟨#[35]⟩ m _ (by omega) hm
    rw [show (⟨#[35]⟩ : ByteArray).data.toList = [35] from rfl] at hcut
    simp only [cut_fst] at hcut
    obtain ⟨X, hX⟩ : ∃ X : ByteArray, (⟨(befL 35 s.data.toList).toArray⟩ : ByteArray) = X := ⟨_, rfl⟩
    rw [hX] at hcut
    have hXl : X.data.toList = befL 35 s.data.toList := by rw [← hX, mk_toList]
    have hXs : X.size ≤ 3000 := by
      rw [sz_len, hXl]
      have := befL_len 35 s.data.toList
      rw [← sz_len] at this
      omega
    rw [← hXl] at hv
    clear hX hXl hm
    generalize (⟨(Lib.cut s.data.toList [35]).2.1.toArray⟩ : ByteArray) = V2 at hcut
    generalize (Lib.cut s.data.toList [35]).2.2 = b2 at hcut
    go_wp2_with fail
    refine hcut.mono ?_
    clear hcut
    rintro e w1 ⟨rfl, nq, rfl⟩
    have hZ1 := Lib.hid (hZ.out.drawn nq)
    clear hZ
    have hsc := fun w' => urlScheme X w' (by omega)
    cases h1 : schemeL X.data.toList with
    | none =>
      simp only [schV_none h1] at hsc
      have hv2 := Lib.hid (show urlParseP s.data.toList = .error 3 by rw [hv.out]; unfold urlT; rw [h1])
      go_wp2_with fail
      refine (hsc _).mono ?_
      rintro e w2 ⟨rfl, hB2⟩
      have hZ2 := Lib.hid (hZ1.out.later hB2)
      have d0 := hZ2.out.d0
      have d1 := hZ2.out.d1
      have d2 := hZ2.out.d2
      have d3 := hZ2.out.d3
      have d4 := hZ2.out.d4
      have f0 := hZ2.out.f 0
      have f1 := hZ2.out.f 1
      have f2 := hZ2.out.f 2
      have f3 := hZ2.out.f 3
      have f4 := hZ2.out.f 4
      go_wp2
      obtain ⟨e0, e1, e2, e3, e4⟩ := set_5 (.bool false) (.string ⟨#[]⟩) (.int .i64 0) (.string ⟨#[]⟩) (.string ⟨#[]⟩) d0 d1 d2 d3 d4
      refine bodyPost_ret (v := .tuple #[.agg #[.bool false, .string ⟨#[]⟩, .int .i64 0, .string ⟨#[]⟩, .string ⟨#[]⟩], .iface 26 (.int .i64 3)]) (by simp [results, Tryz.results5, go_sem, e0, e1, e2, e3, e4]; try rfl) rfl ⟨by rw [urlV_error hv2.out], below_set5 hZ2.out.low (Nat.le_refl _)⟩
    | some z =>
      obtain ⟨sec, r⟩ := z
      simp only [schV_some h1] at hsc
      have hv3 := Lib.hid (hv.out.trans (joinO_of h1))
      have hRs0 := schemeL_len h1
      rw [← sz_len] at hRs0
      obtain ⟨R, hR⟩ : ∃ R : ByteArray, (⟨r.toArray⟩ : ByteArray) = R := ⟨_, rfl⟩
      have hRl : R.data.toList = r := by rw [← hR, mk_toList]
      have hRs : R.size ≤ 3000 := by rw [sz_len, hRl]; omega
      rw [hR] at hsc
      clear hR h1 hRs0
      have hia := fun w' => hIA R w' (by omega)
      rw [hRl, indexAny_at] at hia
      have hal := atL_le r
      have hrR : r.length = R.size := by rw [sz_len, hRl]
      obtain ⟨k, hk⟩ : ∃ k, atL r = k := ⟨_, rfl⟩
      obtain ⟨A, hA⟩ : ∃ A : ByteArray, R.extract 0 k = A := ⟨_, rfl⟩
      have hAl : A.data.toList = r.take (atL r) := by rw [← hA, Lib.extract_data, hRl, hk]; simp
      have hAs : A.size ≤ 1000000 := by rw [← hA, ByteArray.size_extract]; omega
      obtain ⟨y, hy⟩ : ∃ y : ByteArray, R.extract k R.size = y := ⟨_, rfl⟩
      have hyl : Hid (y.data.toList = r.drop (atL r)) := Lib.hid (by rw [← hy, Lib.extract_to_end, hRl, hk])
      have hys : y.size ≤ 3000 := by rw [← hy, ByteArray.size_extract]; omega
      have hpl := fun w' hM => urlPlace sec A w' hM hAs
      rw [hAl] at hpl
      have hcy := fun w' (hM : MaxL w') => cutQ y w' hM (by omega)
      obtain ⟨P, hP⟩ : ∃ P : ByteArray, (⟨(befL 63 y.data.toList).toArray⟩ : ByteArray) = P := ⟨_, rfl⟩
      obtain ⟨Q, hQ⟩ : ∃ Q : ByteArray, (⟨(y.data.toList.drop ((befL 63 y.data.toList).length + 1)).toArray⟩ : ByteArray) = Q := ⟨_, rfl⟩
      have hPl := Lib.hid (show P.data.toList = befL 63 y.data.toList by rw [← hP, mk_toList])
      have hQl := Lib.hid (show Q.data.toList = y.data.toList.drop ((befL 63 y.data.toList).length + 1) by rw [← hQ, mk_toList])
      have hPs : P.size ≤ 3000 := by
        rw [sz_len, hPl.out]
        have := befL_len 63 y.data.toList
        rw [← sz_len] at this
        omega
      have hQs : Q.size ≤ 3000 := by rw [sz_len, hQl.out, List.length_drop, ← sz_len]; omega
      simp only [hP, hQ] at hcy
      obtain ⟨PP, hPP⟩ : ∃ PP, fixP P = PP := ⟨_, rfl⟩
      have hPe : Hid (P.toList.isEmpty = true → PP = ⟨#[47]⟩) := Lib.hid (by
        intro e
        rw [← hPP]; unfold fixP
        rw [if_pos (by rw [Lib.toList_data] at e; simpa using e)])
      have hPn : Hid (P.toList.isEmpty = false → PP = P) := Lib.hid (by
        intro e
        rw [← hPP]; unfold fixP
        rw [if_neg (by intro e'; rw [Lib.toList_data, e'] at e; cases e)])
      have hPPs : PP.size ≤ 3000 := by
        cases e : P.toList.isEmpty
        · rw [hPn.out e]; exact hPs
        · rw [hPe.out e]; decide
      have hhd : ∃ l, PP.data.toList = 47 :: l := by rw [← hPP]; exact fixP_head P (hPl.out.trans (by rw [hyl.out]))
      have hfr := fixP_free P hPl.out
      have hPa : Hid (PP.data.toList.all sendB = P.data.toList.all sendB) := Lib.hid (by rw [← hPP, fixP_all])
      have hcle : Hid (cleanB PP = cleanB P) := Lib.hid (by rw [← hPP, fixP_clean])
      rw [hPP] at hfr
      clear hPP
      generalize (Lib.cut y.data.toList [63]).2.2 = b3 at hcy
      have hAh := Lib.hid hA
      have hyh := Lib.hid hy
      clear hA hy hAl hP hQ hRl
      go_wp2_with fail
      refine (hsc _).mono ?_
      rintro e w2 ⟨rfl, hB2⟩
      have hZa := Lib.hid (hZ1.out.later hB2)
      obtain ⟨iv, hiv⟩ : ∃ iv : Int, (if atL r < r.length then ((atL r : Nat) : Int) else -1) = iv := ⟨_, rfl⟩
      rw [hiv] at hia
      go_wp2_with fail
      refine (hia _).mono ?_
      rintro e w3 ⟨rfl, hB3⟩
      have hZ2 := Lib.hid (hZa.out.later hB3)
      have hkR : k ≤ R.size := by omega
      go_upto_if 36 with (fail)
      go_cut [7] (fun v wx => v = .int .i64 (k : Int) ∧ w3 = wx)
      case first =>
        by_cases hat : atL r < r.length
        · rw [if_pos hat, hk] at hiv
          subst hiv
          clear hal hat
          go_wp2
          go_meet
          exact ⟨rfl, rfl⟩
        · rw [if_neg hat] at hiv
          obtain rfl : R.size = k := by omega
          subst hiv
          clear hal hat
          go_wp2
          go_meet
          exact ⟨rfl, rfl⟩
      case rest =>
        obtain ⟨rfl, rfl⟩ := hcut
        clear hal hiv hia hB3 hB2
        cases hp : placeL sec (r.take (atL r)) with
        | none =>
          rw [placeV_none hp] at hpl
          have hv4 := Lib.hid (show urlParseP s.data.toList = .error 3 by rw [hv3.out, hp])
          clear hp
          go_wp2_with fail
          (try rw [hAh.out])
          refine (hpl _ (hM.later hZ2.out.low)).mono ?_
          rintro e w4 ⟨rfl, hB4⟩
          have hZ3 := Lib.hid ((hZ2.out.later hB4).box (Obj.cells #[.bool false, .string ⟨#[]⟩, .int .i64 0] 23))
          go_wp2_with fail
          (try rw [hyh.out])
          refine (hcy _ (hM.later hZ3.out.low)).mono ?_
          rintro e w5 ⟨rfl, nq2, rfl⟩
          have hZ4 := Lib.hid (hZ3.out.drawn nq2)
          go_upto_if 56 with (fail)
          go_cut [9] (fun v wx => v = .string PP ∧ (w4.alloc (Obj.cells #[.bool false, .string ⟨#[]⟩, .int .i64 0] 23)).drewN nq2 = wx)
          case first =>
            cases e0 : P.toList.isEmpty
            · have e1 := hPn.out e0
              go_wp2
              go_meet
              exact ⟨by rw [e1], rfl⟩
            · have e1 := hPe.out e0
              go_wp2
              go_meet
              exact ⟨by rw [e1], rfl⟩
          case rest =>
            obtain ⟨rfl, rfl⟩ := hcut
            have d0 := hZ4.out.d0
            have d1 := hZ4.out.d1
            have d2 := hZ4.out.d2
            have d3 := hZ4.out.d3
            have d4 := hZ4.out.d4
            have f0 := hZ4.out.f 0
            have f1 := hZ4.out.f 1
            have f2 := hZ4.out.f 2
            have f3 := hZ4.out.f 3
            have f4 := hZ4.out.f 4
            go_wp2
            obtain ⟨e0, e1, e2, e3, e4⟩ := set_5 (.bool false) (.string ⟨#[]⟩) (.int .i64 0) (.string ⟨#[]⟩) (.string ⟨#[]⟩) d0 d1 d2 d3 d4
            refine bodyPost_ret (v := .tuple #[.agg #[.bool false, .string ⟨#[]⟩, .int .i64 0, .string ⟨#[]⟩, .string ⟨#[]⟩], .iface 26 (.int .i64 3)]) (by simp [results, Tryz.results5, go_sem, e0, e1, e2, e3, e4]; try rfl) rfl ⟨by rw [urlV_error hv4.out], below_set5 hZ4.out.low (Nat.le_refl _)⟩
        | some z =>
          obtain ⟨h, n⟩ := z
          rw [placeV_some hp] at hpl
          obtain ⟨H, hH⟩ : ∃ H : ByteArray, (⟨h.toArray⟩ : ByteArray) = H := ⟨_, rfl⟩
          rw [hH] at hpl
          have hHh := Lib.hid hH
          clear hH
          cases hok : hostOk h && portOk n
          · rw [hok] at hpl
            have hv4 := Lib.hid (show urlParseP s.data.toList = .error 3 by rw [hv3.out, hp]; simp only []; rw [hok]; rfl)
            clear hp
            go_wp2_with fail
            (try rw [hAh.out])
            refine (hpl _ (hM.later hZ2.out.low)).mono ?_
            rintro e w4 ⟨rfl, hB4⟩
            have hZ3 := Lib.hid ((hZ2.out.later hB4).box (Obj.cells #[.bool sec, .string H, .int .i64 n] 23))
            go_wp2_with fail
            (try rw [hyh.out])
            refine (hcy _ (hM.later hZ3.out.low)).mono ?_
            rintro e w5 ⟨rfl, nq2, rfl⟩
            have hZ4 := Lib.hid (hZ3.out.drawn nq2)
            go_upto_if 56 with (fail)
            go_cut [9] (fun v wx => v = .string PP ∧ (w4.alloc (Obj.cells #[.bool sec, .string H, .int .i64 n] 23)).drewN nq2 = wx)
            case first =>
              cases e0 : P.toList.isEmpty
              · have e1 := hPn.out e0
                go_wp2
                go_meet
                exact ⟨by rw [e1], rfl⟩
              · have e1 := hPe.out e0
                go_wp2
                go_meet
                exact ⟨by rw [e1], rfl⟩
            case rest =>
              obtain ⟨rfl, rfl⟩ := hcut
              have d0 := hZ4.out.d0
              have d1 := hZ4.out.d1
              have d2 := hZ4.out.d2
              have d3 := hZ4.out.d3
              have d4 := hZ4.out.d4
              have f0 := hZ4.out.f 0
              have f1 := hZ4.out.f 1
              have f2 := hZ4.out.f 2
              have f3 := hZ4.out.f 3
              have f4 := hZ4.out.f 4
              go_wp2
              obtain ⟨e0, e1, e2, e3, e4⟩ := set_5 (.bool false) (.string ⟨#[]⟩) (.int .i64 0) (.string ⟨#[]⟩) (.string ⟨#[]⟩) d0 d1 d2 d3 d4
              refine bodyPost_ret (v := .tuple #[.agg #[.bool false, .string ⟨#[]⟩, .int .i64 0, .string ⟨#[]⟩, .string ⟨#[]⟩], .iface 26 (.int .i64 3)]) (by simp [results, Tryz.results5, go_sem, e0, e1, e2, e3, e4]; try rfl) rfl ⟨by rw [urlV_error hv4.out], below_set5 hZ4.out.low (Nat.le_refl _)⟩
          · rw [hok] at hpl
            have hv4 := Lib.hid (show urlParseP s.data.toList = joinO (some (sec, h, n)) (restL y.data.toList) by rw [hv3.out, hp, hyl.out]; simp only []; rw [hok]; rfl)
            clear hp
            go_wp2_with fail
            (try rw [hAh.out])
            refine (hpl _ (hM.later hZ2.out.low)).mono ?_
            rintro e w4 ⟨rfl, hB4⟩
            have hZ3 := Lib.hid ((hZ2.out.later hB4).box (Obj.cells #[.bool sec, .string H, .int .i64 n] 23))
            have hO := Lib.hid (Below.refl (w4.heap.size + 1) (w4.alloc (Obj.cells #[.bool sec, .string H, .int .i64 n] 23)))
            have hr := Lib.hid (restL_of (tl := y.data.toList) P Q hPl.out hQl.out)
            go_wp2_with fail
            (try rw [hyh.out])
            refine (hcy _ (hM.later hZ3.out.low)).mono ?_
            rintro e w5 ⟨rfl, nq2, rfl⟩
            have hZ4 := Lib.hid (hZ3.out.drawn nq2)
            go_upto_if 56 with (fail)
            go_cut [9] (fun v wx => v = .string PP ∧ (w4.alloc (Obj.cells #[.bool sec, .string H, .int .i64 n] 23)).drewN nq2 = wx)
            case first =>
              cases e0 : P.toList.isEmpty
              · have e1 := hPn.out e0
                go_wp2
                go_meet
                exact ⟨by rw [e1], rfl⟩
              · have e1 := hPe.out e0
                go_wp2
                go_meet
                exact ⟨by rw [e1], rfl⟩
            case rest =>
              obtain ⟨rfl, rfl⟩ := hcut
              have hO4 := Lib.hid (below_drewN hO.out nq2)
              have hpa := fun w' => urlPath PP w' (by omega) hhd
              cases e1 : PP.data.toList.all sendB
              · rw [e1] at hpa
                have hv5 := Lib.hid (show urlParseP s.data.toList = .error 3 by rw [hv4.out, hr.out, ← hPa.out, e1]; rfl)
                clear e1 hr
                go_wp2_with fail
                refine (hpa _).mono ?_
                rintro e w6 ⟨rfl, hB6⟩
                have hZ5 := Lib.hid (hZ4.out.later hB6)
                have d0 := hZ5.out.d0
                have d1 := hZ5.out.d1
                have d2 := hZ5.out.d2
                have d3 := hZ5.out.d3
                have d4 := hZ5.out.d4
                have f0 := hZ5.out.f 0
                have f1 := hZ5.out.f 1
                have f2 := hZ5.out.f 2
                have f3 := hZ5.out.f 3
                have f4 := hZ5.out.f 4
                go_wp2
                obtain ⟨e0, e1, e2, e3, e4⟩ := set_5 (.bool false) (.string ⟨#[]⟩) (.int .i64 0) (.string ⟨#[]⟩) (.string ⟨#[]⟩) d0 d1 d2 d3 d4
                refine bodyPost_ret (v := .tuple #[.agg #[.bool false, .string ⟨#[]⟩, .int .i64 0, .string ⟨#[]⟩, .string ⟨#[]⟩], .iface 26 (.int .i64 3)]) (by simp [results, Tryz.results5, go_sem, e0, e1, e2, e3, e4]; try rfl) rfl ⟨by rw [urlV_error hv5.out], below_set5 hZ5.out.low (Nat.le_refl _)⟩
              · rw [e1] at hpa
                have hct := fun w' => Tryz.strings_Contains_one PP 63 w'
                rw [idx_no 63 _ hfr, show decide ((0 : Int) ≤ -1) = false from rfl] at hct
                have hpq := fun w' => urlPlain Q w' (by omega)
                cases e2 : Q.data.toList.all sendB
                · rw [e2] at hpq
                  have hv5 := Lib.hid (show urlParseP s.data.toList = .error 3 by rw [hv4.out, hr.out, ← hPa.out, e1, e2]; rfl)
                  clear e1 e2 hr
                  go_wp2_with fail
                  refine (hpa _).mono ?_
                  rintro e w6 ⟨rfl, hB6⟩
                  have hZ5 := Lib.hid (hZ4.out.later hB6)
                  go_wp2_with fail
                  refine (hct _).mono ?_
                  rintro e w7 ⟨rfl, rfl⟩
                  go_wp2_with fail
                  refine (hpq _).mono ?_
                  rintro e w8 ⟨rfl, hB8⟩
                  have hZ6 := Lib.hid (hZ5.out.later hB8)
                  have d0 := hZ6.out.d0
                  have d1 := hZ6.out.d1
                  have d2 := hZ6.out.d2
                  have d3 := hZ6.out.d3
                  have d4 := hZ6.out.d4
                  have f0 := hZ6.out.f 0
                  have f1 := hZ6.out.f 1
                  have f2 := hZ6.out.f 2
                  have f3 := hZ6.out.f 3
                  have f4 := hZ6.out.f 4
                  go_wp2
                  obtain ⟨e0, e1, e2, e3, e4⟩ := set_5 (.bool false) (.string ⟨#[]⟩) (.int .i64 0) (.string ⟨#[]⟩) (.string ⟨#[]⟩) d0 d1 d2 d3 d4
                  refine bodyPost_ret (v := .tuple #[.agg #[.bool false, .string ⟨#[]⟩, .int .i64 0, .string ⟨#[]⟩, .string ⟨#[]⟩], .iface 26 (.int .i64 3)]) (by simp [results, Tryz.results5, go_sem, e0, e1, e2, e3, e4]; try rfl) rfl ⟨by rw [urlV_error hv5.out], below_set5 hZ6.out.low (Nat.le_refl _)⟩
                · rw [e2] at hpq
                  have hcl := fun w' hM => urlClean PP w' hM (by omega)
                  rw [hcle.out] at hcl
                  obtain ⟨C, hC⟩ : ∃ C : ByteArray, cleanB P = C := ⟨_, rfl⟩
                  rw [hC] at hcl
                  have hv5 := Lib.hid (show urlParseP s.data.toList = joinO (some (sec, h, n)) (if 200 < C.size then .error 2 else .ok (C, Q.data.toList)) by rw [hv4.out, hr.out, ← hPa.out, e1, e2, hC]; rfl)
                  clear e1 e2 hr hC
                  go_wp2_with fail
                  refine (hpa _).mono ?_
                  rintro e w6 ⟨rfl, hB6⟩
                  have hZ5 := Lib.hid (hZ4.out.later hB6)
                  have hO5 := Lib.hid (hO4.out.then (by simp) hB6)
                  go_wp2_with fail
                  refine (hct _).mono ?_
                  rintro e w7 ⟨rfl, rfl⟩
                  go_wp2_with fail
                  refine (hpq _).mono ?_
                  rintro e w8 ⟨rfl, hB8⟩
                  have hZ6 := Lib.hid (hZ5.out.later hB8)
                  have hO6 := Lib.hid (hO5.out.then (by simp) hB8)
                  go_wp2_with fail
                  refine (hcl _ (hM.later hZ6.out.low)).mono ?_
                  rintro e w9 ⟨rfl, hB9⟩
                  have hZ7 := Lib.hid (hZ6.out.later hB9)
                  by_cases h200 : 200 < C.size
                  · have hv6 := Lib.hid (show urlParseP s.data.toList = .error 2 by rw [hv5.out, if_pos h200]; rfl)
                    have d0 := hZ7.out.d0
                    have d1 := hZ7.out.d1
                    have d2 := hZ7.out.d2
                    have d3 := hZ7.out.d3
                    have d4 := hZ7.out.d4
                    have f0 := hZ7.out.f 0
                    have f1 := hZ7.out.f 1
                    have f2 := hZ7.out.f 2
                    have f3 := hZ7.out.f 3
                    have f4 := hZ7.out.f 4
                    go_wp2
                    obtain ⟨e0, e1, e2, e3, e4⟩ := set_5 (.bool false) (.string ⟨#[]⟩) (.int .i64 0) (.string ⟨#[]⟩) (.string ⟨#[]⟩) d0 d1 d2 d3 d4
                    refine bodyPost_ret (v := .tuple #[.agg #[.bool false, .string ⟨#[]⟩, .int .i64 0, .string ⟨#[]⟩, .string ⟨#[]⟩], .iface 26 (.int .i64 2)]) (by simp [results, Tryz.results5, go_sem, e0, e1, e2, e3, e4]; try rfl) rfl ⟨by rw [urlV_error hv6.out], below_set5 hZ7.out.low (Nat.le_refl _)⟩
                  · have hov : Hid (urlV (urlParseP s.data.toList) .nilIface (fun x => .iface 26 (.int .i64 x)) = .tuple #[.agg #[.bool sec, .string H, .int .i64 n, .string C, .string Q], .nilIface]) := Lib.hid ((urlV_ok (show urlParseP s.data.toList = .ok ((sec, h, n), C, Q.data.toList) by rw [hv5.out, if_neg h200]; rfl)).trans (by rw [hHh.out, ba_eta]))
                    have hO7 := hO6.out.then (by simp) hB9
                    have o0 := box_cell hO7 0 rfl
                    have o1 := box_cell hO7 1 rfl
                    have o2 := box_cell hO7 2 rfl
                    clear hO7
                    have d0 := hZ7.out.d0
                    have d1 := hZ7.out.d1
                    have d2 := hZ7.out.d2
                    have d3 := hZ7.out.d3
                    have d4 := hZ7.out.d4
                    have f0 := hZ7.out.f 0
                    have f1 := hZ7.out.f 1
                    have f2 := hZ7.out.f 2
                    have f3 := hZ7.out.f 3
                    have f4 := hZ7.out.f 4
                    go_wp2
                    obtain ⟨e0, e1, e2, e3, e4⟩ := set_5 (.bool sec) (.string H) (.int .i64 n) (.string C) (.string Q) d0 d1 d2 d3 d4
                    refine bodyPost_ret (v := .tuple #[.agg #[.bool sec, .string H, .int .i64 n, .string C, .string Q], .nilIface]) (by simp [results, Tryz.results5, go_sem, e0, e1, e2, e3, e4]; try rfl) rfl ⟨by rw [hov.out], below_set5 hZ7.out.low (Nat.le_refl _)⟩
end Go.Proofs.YthmkilglidfdiaaGreatDoor
