/- ask.Known: what a challenge asks for. -/
import Derived.Test.YtdlhihfjigcimaaDoorKnownK
import Derived.Test.YtdlhihfjigcimaaDoorKnownA
import Derived.Test.YtdlhihfjigcimaaDoorFound
import Derived.Deep.DeepCutAuto
namespace Go.Proofs.YtdlhihfjigcimaaDoor
open Go.RowKit
set_option maxRecDepth 100000 in
set_option maxHeartbeats 4000000 in
set_option linter.unusedSimpArgs false in
theorem askKnown (sc tk : ByteArray) (ad : Option Addr) (cap : Nat) (ps : List (ByteArray × ByteArray)) (w : World) (hM : MaxL w) (hP : ParAt w ad ps) (hl : ps.length ≤ maxLen) (hsc : sc.size ≤ 100000) (h1 : ∀ p ∈ ps, p.1.size ≤ 100000) (h2 : ∀ p ∈ ps, p.2.size ≤ 100000) :
    Calls Tryd.prog 15 #[.agg #[.string sc, .string tk, .slice ad ps.length cap]] w (KnownPost w (knownV sc ps)) := by
  have hz : ParSz ps := fun p hp => ⟨Nat.le_trans (h1 p hp) (by decide), Nat.le_trans (h2 p hp) (by decide)⟩
  have G := fun (name : ByteArray) (a : ByteArray) (b : Bool) (h : getOf ps name = (a, b)) (hn : name.size ≤ maxLen) (w' : World) (hb : Below w.heap.size w w') => (show Calls Tryd.prog 38 #[.agg #[.string sc, .string tk, .slice ad ps.length cap], .string name] w' fun e w'' => e = .returned (.tuple #[.string a, .bool b]) ∧ Below w'.heap.size w' w'' by
    have := askGet sc tk ad cap ps name w' (hP.later hb) hz hl hn
    rw [h] at this; exact this)
  have hgz := getOf_sz h2
  clear hz h1 h2 hP
  obtain ⟨realm, rb, hrl⟩ : ∃ a b, getOf ps (⟨#[114, 101, 97, 108, 109]⟩ : ByteArray) = (a, b) := ⟨_, _, rfl⟩
  obtain ⟨av, ab, hal⟩ : ∃ a b, getOf ps (⟨#[97, 108, 103, 111, 114, 105, 116, 104, 109]⟩ : ByteArray) = (a, b) := ⟨_, _, rfl⟩
  obtain ⟨nonce, nb, hno⟩ : ∃ a b, getOf ps (⟨#[110, 111, 110, 99, 101]⟩ : ByteArray) = (a, b) := ⟨_, _, rfl⟩
  obtain ⟨qv, qb, hqo⟩ : ∃ a b, getOf ps (⟨#[113, 111, 112]⟩ : ByteArray) = (a, b) := ⟨_, _, rfl⟩
  obtain ⟨opq, ob, hop⟩ : ∃ a b, getOf ps (⟨#[111, 112, 97, 113, 117, 101]⟩ : ByteArray) = (a, b) := ⟨_, _, rfl⟩
  obtain ⟨stv, sb, hst⟩ : ∃ a b, getOf ps (⟨#[115, 116, 97, 108, 101]⟩ : ByteArray) = (a, b) := ⟨_, _, rfl⟩
  obtain ⟨dom, db, hdo⟩ : ∃ a b, getOf ps (⟨#[100, 111, 109, 97, 105, 110]⟩ : ByteArray) = (a, b) := ⟨_, _, rfl⟩
  have gR := G _ _ _ hrl (by decide)
  have gA := G _ _ _ hal (by decide)
  have gN := G _ _ _ hno (by decide)
  have gQ := G _ _ _ hqo (by decide)
  have gO := G _ _ _ hop (by decide)
  have gS := G _ _ _ hst (by decide)
  have gD := G _ _ _ hdo (by decide)
  have zA : av.size ≤ 100000 := by have := hgz (⟨#[97, 108, 103, 111, 114, 105, 116, 104, 109]⟩ : ByteArray); rw [hal] at this; exact this
  have zQ : qv.size ≤ 100000 := by have := hgz (⟨#[113, 111, 112]⟩ : ByteArray); rw [hqo] at this; exact this
  have zS : stv.size ≤ 100000 := by have := hgz (⟨#[115, 116, 97, 108, 101]⟩ : ByteArray); rw [hst] at this; exact this
  have zD : dom.size ≤ 100000 := by have := hgz (⟨#[100, 111, 109, 97, 105, 110]⟩ : ByteArray); rw [hdo] at this; exact this
  obtain ⟨nm, hnm⟩ : ∃ x, x = algName ps := ⟨_, rfl⟩
  have hnm1 : nm = if ab then av else (⟨#[77, 68, 53]⟩ : ByteArray) := by rw [hnm]; unfold algName; rw [hal]
  have zM : nm.size ≤ 100000 := by
    rw [hnm1]
    cases ab
    · exact (by decide : ((⟨#[77, 68, 53]⟩ : ByteArray)).size ≤ 100000)
    · exact zA
  have hV0 : Hid (rb = false → knownV sc ps = none) := Lib.hid (fun h => by unfold knownV; rw [hrl, if_pos h])
  have hV1 : Hid (rb = true → same sc (⟨#[98, 97, 115, 105, 99]⟩ : ByteArray) = true → knownV sc ps = some { askZero with scheme := 1, realm := realm }) := Lib.hid (fun h h' => by unfold knownV; rw [hrl, h, if_neg (by intro e; cases e), if_pos h'])
  have hV2 : Hid (rb = true → same sc (⟨#[98, 97, 115, 105, 99]⟩ : ByteArray) = false → knownV sc ps = knownD sc ps (algoOf nm) (qopRes ps)) := Lib.hid (fun h h' => by unfold knownV; rw [hrl, h, if_neg (by intro e; cases e), if_neg (by rw [h']; decide), hnm])
  have hD := Lib.hid (And.intro hrl (And.intro hno (And.intro hqo (And.intro hop (And.intro hst hdo)))))
  have hnm1' := Lib.hid hnm1
  clear hrl hal hno hqo hop hst hdo G hgz hnm hnm1 hl
  have sB := fun w' => tokenSame sc (⟨#[98, 97, 115, 105, 99]⟩ : ByteArray) w' (Nat.le_trans hsc (by decide)) (by decide)
  have sD := fun w' => tokenSame sc (⟨#[100, 105, 103, 101, 115, 116]⟩ : ByteArray) w' (Nat.le_trans hsc (by decide)) (by decide)
  go_enter Tryd.func15, Tryd.ntmps15
  go_wp2_with fail
  have hK0 := KnB.start w sc tk ad ps.length cap
  refine (gR _ hK0.low).mono ?_
  rintro e w1 ⟨rfl, hB1⟩
  have hK1 := Lib.hid (hK0.then hB1)
  clear hK0 hB1
  obtain ⟨c0, c1, c2⟩ := hK1.out.ch
  cases rb
  · -- DONE{ e1
    have hv := Lib.hid (hV0.out rfl)
    have hR := hK1.out.res
    have hlow := hK1.out.low
    go_upto_region 3 with (fail)
    (repeat (first | (go_big_may; refine wpList_store_blk rfl tAsk _ _ rfl _ rfl hR zArr rfl rfl infoAsk (ask_one _ _ _ _ _ _ _ _ _ _) ?_; intro wz hz hg) | go_values | go_skip | go_guarded | go_step | go_upon))
    obtain ⟨d0, d1, d2, d3, d4, d5, d6, d7⟩ := blk_cells hz
    (try simp only [Exit.inBlock, Exit.then])
    refine bodyPost_ret (v := .tuple #[.agg zArr, .bool false]) (by simp [results, Tryd.results15, go_sem, d0, d1, d2, d3, d4, d5, d6, d7]; try rfl) rfl ?_
    exact KnownPost.no hv.out rfl (below_only hlow hg hlow.size (Nat.le_succ _))
    -- }DONE e1
  · go_upto_region 4 with (fail)
    go_cut [6] (fun s wx => ∃ p, s = .pointer (some ⟨p, 0, none⟩) ∧ w.heap.size + 2 ≤ p ∧ Hid (KS w sc tk ad ps.length cap p #[.int .i64 1, .string realm, .string ⟨#[]⟩, .string ⟨#[]⟩, .bool false, .string ⟨#[]⟩, .bool false, .slice none 0 0] wx))
    case first =>
      go_wp2
      go_meet
      exact ⟨w1.heap.size, rfl, hK1.out.size, Lib.hid ⟨Below.alloc hK1.out hK1.out.size _, Blk.new w1 _ _⟩⟩
    case rest =>
      obtain ⟨p, rfl, hp, hS⟩ := hcut
      clear c0 c1 c2
      obtain ⟨c0, c1, c2⟩ := hS.out.b.ch
      cases hsb : same sc (⟨#[98, 97, 115, 105, 99]⟩ : ByteArray)
      · rw [hsb] at sB
        have hv2 := Lib.hid (hV2.out (by first | exact trivial | rfl) hsb)
        clear hsb
        go_wp2_with fail
        refine (sB _).mono ?_
        rintro e w2 ⟨rfl, hB2⟩
        have hS2 := Lib.hid (hS.out.then hB2)
        clear c0 c1 c2 hB2 hS
        obtain ⟨c0, c1, c2⟩ := hS2.out.b.ch
        go_wp2_with fail
        refine (gA _ hS2.out.b.low).mono ?_
        rintro e w3 ⟨rfl, hB3⟩
        have hS3 := Lib.hid (hS2.out.then hB3)
        clear c0 c1 c2 hB3 hS2
        go_upto_if 40 with (fail)
        go_cut [7] (fun s wx => s = .string nm ∧ w3 = wx)
        case first =>
          -- DONE{ b1
          cases ab
          all_goals
            go_wp2_with fail
            go_meet
            exact ⟨by rw [hnm1'.out]; rfl, rfl⟩
          -- }DONE b1
        case rest =>
          obtain ⟨rfl, rfl⟩ := hcut
          obtain ⟨k, sess, ok, hA, hok⟩ : ∃ k sess ok, algV nm = .tuple #[.int .i64 k, .bool sess, .bool ok] ∧ ((ok = false ∧ algoOf nm = none) ∨ (ok = true ∧ algoOf nm = some (k, sess))) := by
            cases h : algoOf nm with
            | none => exact ⟨_, _, _, algV_none h, .inl ⟨rfl, rfl⟩⟩
            | some x => exact ⟨_, _, _, algV_some h, .inr ⟨rfl, rfl⟩⟩
          have hAl := fun w' => askAlgorithm nm w' (Nat.le_trans zM (by decide))
          rw [hA] at hAl
          have hok' := Lib.hid hok
          clear hA hok
          obtain ⟨c0, c1, c2⟩ := hS3.out.b.ch
          obtain ⟨q0, q1, q2, q3, q4, q5, q6, q7⟩ := blk_cells hS3.out.q
          go_upto_region 10 with (fail)
          go_cut [5] (fun s wx => s = .bool ok ∧ Hid (KS w sc tk ad ps.length cap p #[.int .i64 k, .string realm, .string ⟨#[]⟩, .string ⟨#[]⟩, .bool sess, .string ⟨#[]⟩, .bool false, .slice none 0 0] wx))
          case first =>
            -- DONE{ b2
            clear c0 c1 c2 q0 q1 q2 q3 q4 q5 q6 q7
            go_wp2_with fail
            refine (hAl _).mono ?_
            rintro e w4 ⟨rfl, hB4⟩
            have hS4 := Lib.hid (hS3.out.then hB4)
            obtain ⟨q0, q1, q2, q3, q4, q5, q6, q7⟩ := blk_cells hS4.out.q
            obtain ⟨g0, g1, g2, g3, g4, g5, g6, g7⟩ := blk_free hS4.out.q
            go_wp2
            go_meet
            exact ⟨rfl, Lib.hid (by simpa using (hS4.out.put hp 0 (.int .i64 k)).put hp 4 (.bool sess))⟩
            -- }DONE b2
          case rest =>
            clear c0 c1 c2 q0 q1 q2 q3 q4 q5 q6 q7 hS3
            obtain ⟨rfl, hS4⟩ := hcut
            cases ok
            · -- DONE{ e2
              have hv := Lib.hid (show knownV sc ps = none by
                rcases hok'.out with ⟨_, h⟩ | ⟨h, _⟩
                · rw [hv2.out, h]; rfl
                · cases h)
              have hR := hS4.out.b.res
              have hlow := hS4.out.b.low
              go_upto_region 12 with (fail)
              (repeat (first | (go_big_may; refine wpList_store_blk rfl tAsk _ _ rfl _ rfl hR zArr rfl rfl infoAsk (ask_one _ _ _ _ _ _ _ _ _ _) ?_; intro wz hz hg) | go_values | go_skip | go_guarded | go_step | go_upon))
              obtain ⟨d0, d1, d2, d3, d4, d5, d6, d7⟩ := blk_cells hz
              (try simp only [Exit.inBlock, Exit.then])
              refine bodyPost_ret (v := .tuple #[.agg zArr, .bool false]) (by simp [results, Tryd.results15, go_sem, d0, d1, d2, d3, d4, d5, d6, d7]; try rfl) rfl ?_
              exact KnownPost.no hv.out rfl (below_only hlow hg hlow.size (Nat.le_succ _))
              -- }DONE e2
            · have hv3 := Lib.hid (show knownV sc ps = knownD sc ps (some (k, sess)) (qopRes ps) by
                rcases hok'.out with ⟨h, _⟩ | ⟨_, h⟩
                · cases h
                · rw [hv2.out, h])
              clear hok' hv2
              obtain ⟨c0, c1, c2⟩ := hS4.out.b.ch
              cases hsd : same sc (⟨#[100, 105, 103, 101, 115, 116]⟩ : ByteArray)
              · -- DONE{ e3
                rw [hsd] at sD
                have hv := Lib.hid (show knownV sc ps = none by rw [hv3.out]; unfold knownD; simp only; rw [if_pos hsd])
                clear hsd
                go_wp2_with fail
                refine (sD _).mono ?_
                rintro e w5 ⟨rfl, hB5⟩
                have hS5 := Lib.hid (hS4.out.then hB5)
                clear c0 c1 c2
                have hR := hS5.out.b.res
                have hlow := hS5.out.b.low
                go_upto_region 12 with (fail)
                (repeat (first | (go_big_may; refine wpList_store_blk rfl tAsk _ _ rfl _ rfl hR zArr rfl rfl infoAsk (ask_one _ _ _ _ _ _ _ _ _ _) ?_; intro wz hz hg) | go_values | go_skip | go_guarded | go_step | go_upon))
                obtain ⟨d0, d1, d2, d3, d4, d5, d6, d7⟩ := blk_cells hz
                (try simp only [Exit.inBlock, Exit.then])
                refine bodyPost_ret (v := .tuple #[.agg zArr, .bool false]) (by simp [results, Tryd.results15, go_sem, d0, d1, d2, d3, d4, d5, d6, d7]; try rfl) rfl ?_
                exact KnownPost.no hv.out rfl (below_only hlow hg hlow.size (Nat.le_succ _))
                -- }DONE e3
              · rw [hsd] at sD
                have hsd' := Lib.hid hsd
                clear hsd
                go_wp2_with fail
                refine (sD _).mono ?_
                rintro e w5 ⟨rfl, hB5⟩
                have hS5 := Lib.hid (hS4.out.then hB5)
                clear c0 c1 c2 hB5 hS4
                obtain ⟨c0, c1, c2⟩ := hS5.out.b.ch
                go_wp2_with fail
                refine (gN _ hS5.out.b.low).mono ?_
                rintro e w6 ⟨rfl, hB6⟩
                have hS6 := Lib.hid (hS5.out.then hB6)
                clear c0 c1 c2 hB6 hS5
                obtain ⟨c0, c1, c2⟩ := hS6.out.b.ch
                obtain ⟨q0, q1, q2, q3, q4, q5, q6, q7⟩ := blk_cells hS6.out.q
                obtain ⟨g0, g1, g2, g3, g4, g5, g6, g7⟩ := blk_free hS6.out.q
                have hS7 := Lib.hid (hS6.out.put hp 2 (.string nonce))
                cases nb
                · -- DONE{ e4
                  have hv := Lib.hid (show knownV sc ps = none by rw [hv3.out]; unfold knownD; simp only; rw [hsd'.out, if_neg (by decide), hD.out.2.1, if_pos rfl])
                  have hR := hS7.out.b.res
                  have hlow := hS7.out.b.low
                  go_upto_region 15 with (fail)
                  (repeat (first | (go_big_may; refine wpList_store_blk rfl tAsk _ _ rfl _ rfl hR zArr rfl rfl infoAsk (ask_one _ _ _ _ _ _ _ _ _ _) ?_; intro wz hz hg) | go_values | go_skip | go_guarded | go_step | go_upon))
                  obtain ⟨d0, d1, d2, d3, d4, d5, d6, d7⟩ := blk_cells hz
                  (try simp only [Exit.inBlock, Exit.then])
                  refine bodyPost_ret (v := .tuple #[.agg zArr, .bool false]) (by simp [results, Tryd.results15, go_sem, d0, d1, d2, d3, d4, d5, d6, d7]; try rfl) rfl ?_
                  exact KnownPost.no hv.out rfl (below_only hlow hg hlow.size (Nat.le_succ _))
                  -- }DONE e4
                · have hv4 := Lib.hid (show knownV sc ps = match qopRes ps with
                      | none => none
                      | some q => some ⟨k, realm, nonce, opq, sess, q, same stv (⟨#[116, 114, 117, 101]⟩ : ByteArray), domOf dom⟩ by
                    rw [hv3.out]; unfold knownD; simp only
                    rw [hsd'.out, if_neg (by decide), hD.out.2.1, if_neg (by intro e; cases e), hD.out.1, hD.out.2.2.2.1, hD.out.2.2.2.2.1, hD.out.2.2.2.2.2]
                    rfl)
                  clear hv3
                  go_wp2_with fail
                  refine (gQ _ hS7.out.b.low).mono ?_
                  rintro e w8 ⟨rfl, hB8⟩
                  have hS8 : Hid (KS w sc tk ad ps.length cap p #[.int .i64 k, .string realm, .string nonce, .string ⟨#[]⟩, .bool sess, .string ⟨#[]⟩, .bool false, .slice none 0 0] w8) := Lib.hid (by simpa using hS7.out.then hB8)
                  clear c0 c1 c2 q0 q1 q2 q3 q4 q5 q6 q7 g0 g1 g2 g3 g4 g5 g6 g7 hB8 hS6 hS7
                  have hp8 := hS8.out.q.lt
                  go_upto_if 72 with (fail)
                  go_cut [] (fun wx => ∃ q, qopRes ps = some q ∧ Hid (KS w sc tk ad ps.length cap p #[.int .i64 k, .string realm, .string nonce, .string ⟨#[]⟩, .bool sess, .string q, .bool false, .slice none 0 0] wx))
                  case first =>
                    -- DONE{ c1
                    cases qb
                    · go_wp2_with fail
                      go_meet
                      exact ⟨⟨#[]⟩, by unfold qopRes; rw [hD.out.2.2.1]; try rfl, hS8⟩
                    · have hq3 := Lib.hid (show qopRes ps = if (listRes qv.data.toList).2.1 ≠ 0 then none else if (qopOf (listRes qv.data.toList).1).toList.isEmpty then none else some (qopOf (listRes qv.data.toList).1) by
                        unfold qopRes; rw [hD.out.2.2.1, if_pos rfl]
                        first | done | (generalize listRes qv.data.toList = t; obtain ⟨x, y, z⟩ := t; rfl))
                      have hfew := listRes_few qv.data.toList
                      have hlsz := listRes_sz qv
                      go_wp2_with fail
                      refine (tokenList qv _ (by omega)).mono ?_
                      rintro e w9 ⟨v, x, ss, rfl, hO, hd, hE, hnil, hB9⟩
                      have hS9 := Lib.hid (hS8.out.then hB9)
                      clear hS8 hB9
                      rw [← hd] at hfew hlsz hq3
                      generalize (listRes qv.data.toList).2.1 = n at hE hnil hq3
                      by_cases h0 : n = 0
                      · have hx := hnil h0
                        subst hx
                        have hq4 := Lib.hid (show qopRes ps = if (qopOf (datas ss)).toList.isEmpty then none else some (qopOf (datas ss)) by rw [hq3.out, if_neg (by simp [h0])])
                        have hlen : ss.length ≤ 40 := by simpa [datas] using hfew
                        have hsz := Lib.hid (datas_sz hlsz)
                        obtain ⟨a9, c9, rfl, hSt9, hc9, hm9, _⟩ := hO.shape
                        have hO' := Lib.hid hO
                        clear hE hnil h0 hd hfew hlsz hq3 hSt9 hO
                        go_wp2
                        have hS10 := Lib.hid (hS9.out.then ((Below.refl _ _).alloc (Nat.le_refl _) (.cells #[.string (⟨#[97, 117, 116, 104, 45, 105, 110, 116]⟩ : ByteArray), .string (⟨#[97, 117, 116, 104]⟩ : ByteArray)] 9)))
                        have hO10 := Lib.hid (hO'.out.later ((Below.refl _ _).alloc (Nat.le_refl _) (.cells #[.string (⟨#[97, 117, 116, 104, 45, 105, 110, 116]⟩ : ByteArray), .string (⟨#[97, 117, 116, 104]⟩ : ByteArray)] 9)))
                        have hN10 : Hid (Blk (w9.alloc (.cells #[.string (⟨#[97, 117, 116, 104, 45, 105, 110, 116]⟩ : ByteArray), .string (⟨#[97, 117, 116, 104]⟩ : ByteArray)] 9)) w9.heap.size (qopNames.map Value.string).toArray 9) := Lib.hid (Blk.new w9 _ _)
                        have hpN : p < w9.heap.size := hS9.out.q.lt
                        clear hS9 hO'
                        generalize w9.alloc (.cells #[.string (⟨#[97, 117, 116, 104, 45, 105, 110, 116]⟩ : ByteArray), .string (⟨#[97, 117, 116, 104]⟩ : ByteArray)] 9) = wL at hS10 hO10 hN10 ⊢
                        generalize w9.heap.size = N at hN10 hpN ⊢
                        go_loopw [83] (fun i wr => ∃ k2 : Nat, k2 ≤ qopNames.length ∧ i = .int .i64 k2 ∧ Hid (KS w sc tk ad ps.length cap p #[.int .i64 k, .string realm, .string nonce, .string ⟨#[]⟩, .bool sess, .string ((qopNames.take k2).foldl (qopStep (datas ss)) ⟨#[]⟩), .bool false, .slice none 0 0] wr) ∧ Hid (Blk wr N (qopNames.map Value.string).toArray 9) ∧ Hid (OwnStr wr w8.heap.size (.slice a9 ss.length c9) ss)) (fun i _ => qopNames.length - (intOf i).toNat)
                        case atStart => exact ⟨0, Nat.zero_le _, rfl, hS10, hN10, hO10⟩
                        case round =>
                          obtain ⟨k2, hk2, rfl, hSr, hNr, hOr⟩ := hrel
                          have hl2 : qopNames.length = 2 := rfl
                          clear hS10 hN10 hO10
                          by_cases hlt : k2 < qopNames.length
                          · have hk3 : k2 < 2 := by omega
                            have cN := hNr.out.cell k2 (map_at qopNames k2 hlt)
                            have hns : qopNames[k2].size ≤ 10 := (show ∀ n ∈ qopNames, n.size ≤ 10 by decide +kernel) _ (List.getElem_mem hlt)
                            have hst := Lib.hid (fold_take (f := qopStep (datas ss)) qopNames k2 hlt ⟨#[]⟩)
                            generalize qopNames[k2] = nm2 at cN hns hst
                            generalize (qopNames.take k2).foldl (qopStep (datas ss)) ⟨#[]⟩ = acc at hSr hst
                            obtain ⟨a', c', e', hStr, _, _, _⟩ := hOr.out.shape
                            cases e'
                            have hal := (Below.refl wr.heap.size wr).alloc (Nat.le_refl _) (.cells #[.string nm2] 9)
                            have hpr : PredS 43 #[.pointer (some ⟨wr.heap.size, 0, none⟩)] (fun x => same x nm2) ss (wr.alloc (.cells #[.string nm2] 9)) := fun W x hb hx =>
                              known1 x nm2 wr.heap.size W ((hb.cell (p := ⟨wr.heap.size, 0, none⟩) (by simp)).trans (new_cell wr _ _ _ 0 rfl rfl)) (by have := hsz.out x hx; unfold maxLen; omega) (by unfold maxLen; omega)
                            have hcf := containsFuncS 43 #[.pointer (some ⟨wr.heap.size, 0, none⟩)] (fun x => same x nm2) a9 c9 ss (wr.alloc (.cells #[.string nm2] 9)) (hStr.later hal) (by omega) (fun _ _ => rfl) hpr
                            rw [any_same] at hcf
                            clear hpr hStr
                            cases hh : hasW (datas ss) nm2
                            · -- DONE{ c1n
                              rw [hh] at hcf
                              have hst' := Lib.hid (show (qopNames.take (k2 + 1)).foldl (qopStep (datas ss)) ⟨#[]⟩ = acc by rw [hst.out]; unfold qopStep; rw [hh]; rfl)
                              clear hh
                              go_wp2_with fail
                              refine hcf.mono ?_
                              rintro e wz ⟨rfl, hBz⟩
                              have hBz' := hal.then (Nat.le_refl _) hBz
                              have hz1 := Lib.hid (hSr.out.then hBz')
                              have hz2 := Lib.hid (hNr.out.later hBz')
                              have hz3 := Lib.hid (hOr.out.later hBz')
                              clear hal hBz hBz' cN hcf
                              go_wp2
                              go_roundw
                              case rel => exact ⟨k2 + 1, by omega, by go_num, by rw [hst'.out]; exact hz1, hz2, hz3⟩
                              case measure => simp [intOf]; omega
                              -- }DONE c1n
                            · -- DONE{ c1y
                              rw [hh] at hcf
                              have hst' := Lib.hid (show (qopNames.take (k2 + 1)).foldl (qopStep (datas ss)) ⟨#[]⟩ = nm2 by rw [hst.out]; unfold qopStep; rw [hh]; rfl)
                              clear hh
                              go_wp2_with fail
                              refine hcf.mono ?_
                              rintro e wz ⟨rfl, hBz⟩
                              have hBz' := hal.then (Nat.le_refl _) hBz
                              have hz1 := Lib.hid (hSr.out.then hBz')
                              have hz2 := Lib.hid (hNr.out.later hBz')
                              have hz3 := Lib.hid (hOr.out.later hBz')
                              have cq := (hBz.cell (p := ⟨wr.heap.size, 0, none⟩) (by simp)).trans (new_cell wr #[.string nm2] 9 _ 0 rfl rfl)
                              obtain ⟨q0, q1, q2, q3, q4, q5, q6, q7⟩ := blk_cells hz1.out.q
                              obtain ⟨g0, g1, g2, g3, g4, g5, g6, g7⟩ := blk_free hz1.out.q
                              clear hal hBz hBz' cN hcf
                              go_wp2
                              go_roundw
                              case rel => exact ⟨k2 + 1, by omega, by go_num, by rw [hst'.out]; exact Lib.hid (by simpa using hz1.out.put hp 5 (.string nm2)), Lib.hid (hz2.out.far _ _ (by show p ≠ N; omega)), Lib.hid (OwnStr.put hz3.out hp8 5 _)⟩
                              case measure => simp [intOf]; omega
                              -- }DONE c1y
                          · -- DONE{ c1e
                            obtain rfl : qopNames.length = k2 := by omega
                            have hqq : (qopNames.take qopNames.length).foldl (qopStep (datas ss)) ⟨#[]⟩ = qopOf (datas ss) := by rw [List.take_length]; rfl
                            rw [hqq] at hSr
                            clear hqq
                            generalize qopOf (datas ss) = qq at hSr hq4
                            obtain ⟨q0, q1, q2, q3, q4, q5, q6, q7⟩ := blk_cells hSr.out.q
                            cases he : qq.toList.isEmpty
                            · have hq5 := Lib.hid (show qopRes ps = some qq by rw [hq4.out, he]; rfl)
                              go_wp2
                              go_meet
                              exact ⟨qq, hq5.out, hSr⟩
                            · have hv := Lib.hid (show knownV sc ps = none by rw [hv4.out, hq4.out, he]; rfl)
                              have hR := hSr.out.b.res
                              have hlow := hSr.out.b.low
                              go_upto_region 28 with (fail)
                              (repeat (first | (go_big_may; refine wpList_store_blk rfl tAsk _ _ rfl _ rfl hR zArr rfl rfl infoAsk (ask_one _ _ _ _ _ _ _ _ _ _) ?_; intro wz hz hg) | go_values | go_skip | go_guarded | go_step | go_upon))
                              obtain ⟨d0, d1, d2, d3, d4, d5, d6, d7⟩ := blk_cells hz
                              (try simp only [Exit.inBlock, Exit.then])
                              refine bodyPost_ret (v := .tuple #[.agg zArr, .bool false]) (by simp [results, Tryd.results15, go_sem, d0, d1, d2, d3, d4, d5, d6, d7]; try rfl) rfl ?_
                              exact KnownPost.no hv.out rfl (below_only hlow hg hlow.size (Nat.le_succ _))
                            -- }DONE c1e
                      · -- DONE{ c1x
                        have hv := Lib.hid (show knownV sc ps = none by rw [hv4.out, hq3.out, if_pos h0])
                        rcases hE with ⟨rfl, h, _⟩ | ⟨rfl, _⟩ | ⟨pp, rfl, _⟩
                        · exact absurd h h0
                        · clear hnil hO
                          have hR := hS9.out.b.res
                          have hlow := hS9.out.b.low
                          go_upto_region 20 with (fail)
                          (repeat (first | (go_big_may; refine wpList_store_blk rfl tAsk _ _ rfl _ rfl hR zArr rfl rfl infoAsk (ask_one _ _ _ _ _ _ _ _ _ _) ?_; intro wz hz hg) | go_values | go_skip | go_guarded | go_step | go_upon))
                          obtain ⟨d0, d1, d2, d3, d4, d5, d6, d7⟩ := blk_cells hz
                          (try simp only [Exit.inBlock, Exit.then])
                          refine bodyPost_ret (v := .tuple #[.agg zArr, .bool false]) (by simp [results, Tryd.results15, go_sem, d0, d1, d2, d3, d4, d5, d6, d7]; try rfl) rfl ?_
                          exact KnownPost.no hv.out rfl (below_only hlow hg hlow.size (Nat.le_succ _))
                        · clear hnil hO
                          have hR := hS9.out.b.res
                          have hlow := hS9.out.b.low
                          go_upto_region 20 with (fail)
                          (repeat (first | (go_big_may; refine wpList_store_blk rfl tAsk _ _ rfl _ rfl hR zArr rfl rfl infoAsk (ask_one _ _ _ _ _ _ _ _ _ _) ?_; intro wz hz hg) | go_values | go_skip | go_guarded | go_step | go_upon))
                          obtain ⟨d0, d1, d2, d3, d4, d5, d6, d7⟩ := blk_cells hz
                          (try simp only [Exit.inBlock, Exit.then])
                          refine bodyPost_ret (v := .tuple #[.agg zArr, .bool false]) (by simp [results, Tryd.results15, go_sem, d0, d1, d2, d3, d4, d5, d6, d7]; try rfl) rfl ?_
                          exact KnownPost.no hv.out rfl (below_only hlow hg hlow.size (Nat.le_succ _))
                        -- }DONE c1x
                    -- }DONE c1
                  case rest =>
                    -- DONE{ c2
                    obtain ⟨q, hq, hS9⟩ := hcut
                    have hv5 := Lib.hid (show knownV sc ps = some ⟨k, realm, nonce, opq, sess, q, same stv (⟨#[116, 114, 117, 101]⟩ : ByteArray), domOf dom⟩ by rw [hv4.out, hq])
                    clear hq hv4 hS8
                    obtain ⟨c0, c1, c2⟩ := hS9.out.b.ch
                    go_wp2_with fail
                    refine (gO _ hS9.out.b.low).mono ?_
                    rintro e w10 ⟨rfl, hB10⟩
                    have hS10 := Lib.hid (hS9.out.then hB10)
                    clear c0 c1 c2 hB10 hS9
                    have hS11 : Hid (KS w sc tk ad ps.length cap p #[.int .i64 k, .string realm, .string nonce, .string opq, .bool sess, .string q, .bool false, .slice none 0 0] (w10.setCell ⟨p, 3, none⟩ (.string opq))) := Lib.hid (by simpa using hS10.out.put hp 3 (.string opq))
                    obtain ⟨c0, c1, c2⟩ := hS10.out.b.ch
                    obtain ⟨q0, q1, q2, q3, q4, q5, q6, q7⟩ := blk_cells hS10.out.q
                    obtain ⟨g0, g1, g2, g3, g4, g5, g6, g7⟩ := blk_free hS10.out.q
                    go_wp2_with fail
                    refine (gS _ hS11.out.b.low).mono ?_
                    rintro e w12 ⟨rfl, hB12⟩
                    have hS12 := Lib.hid (hS11.out.then hB12)
                    clear c0 c1 c2 q0 q1 q2 q3 q4 q5 q6 q7 g0 g1 g2 g3 g4 g5 g6 g7 hB12 hS10 hS11
                    have hst := fun w' => tokenSame stv (⟨#[116, 114, 117, 101]⟩ : ByteArray) w' (Nat.le_trans zS (by decide)) (by decide)
                    generalize same stv (⟨#[116, 114, 117, 101]⟩ : ByteArray) = stb at hst hv5
                    go_wp2_with fail
                    refine (hst _).mono ?_
                    rintro e w13 ⟨rfl, hB13⟩
                    have hS13 := Lib.hid (hS12.out.then hB13)
                    have hS14 : Hid (KS w sc tk ad ps.length cap p #[.int .i64 k, .string realm, .string nonce, .string opq, .bool sess, .string q, .bool stb, .slice none 0 0] (w13.setCell ⟨p, 6, none⟩ (.bool stb))) := Lib.hid (by simpa using hS13.out.put hp 6 (.bool stb))
                    clear hB13 hS12 hst
                    obtain ⟨c0, c1, c2⟩ := hS13.out.b.ch
                    obtain ⟨q0, q1, q2, q3, q4, q5, q6, q7⟩ := blk_cells hS13.out.q
                    obtain ⟨g0, g1, g2, g3, g4, g5, g6, g7⟩ := blk_free hS13.out.q
                    go_wp2_with fail
                    refine (gD _ hS14.out.b.low).mono ?_
                    rintro e w15 ⟨rfl, hB15⟩
                    have hS15 := Lib.hid (hS14.out.then hB15)
                    clear c0 c1 c2 q0 q1 q2 q3 q4 q5 q6 q7 g0 g1 g2 g3 g4 g5 g6 g7 hB15 hS13 hS14
                    have hM15 := hM.later hS15.out.b.low
                    go_wp2_with fail
                    refine (stringsSplit 32 dom w15 hM15 (by omega)).mono ?_
                    rintro e w16 ⟨rfl, hw16⟩
                    have hbel16 : Below w15.heap.size w15 w16 := by rw [← hw16]; exact (Below.refl _ _).alloc (Nat.le_refl _) _
                    have hN16 : Hid (Blk w16 w15.heap.size ((pieces 32 dom).map Value.string).toArray 9) := Lib.hid (by rw [← hw16]; exact Blk.new _ _ _)
                    have hz16 : w15.heap.size < w16.heap.size := by rw [← hw16]; simp
                    have hS16 := Lib.hid (hS15.out.then hbel16)
                    have hp15 := hS15.out.q.lt
                    have hM16 := Lib.hid (hM15.later hbel16)
                    have hps := pieces_le 32 dom
                    have hO16 : Hid (OwnStr w16 w16.heap.size (.slice none 0 0) (domTo dom 0)) := Lib.hid (OwnStr.nil _ _)
                    clear hw16 hbel16 hS15 hM15
                    generalize w15.heap.size = N at hN16 hz16 hp15 ⊢
                    go_wp2
                    go_loopw [119] (fun i wr => ∃ (k3 : Nat) (v : Value), k3 ≤ (pieces 32 dom).length ∧ i = .int .i64 k3 ∧ Hid (KS w sc tk ad ps.length cap p #[.int .i64 k, .string realm, .string nonce, .string opq, .bool sess, .string q, .bool stb, v] wr) ∧ Hid (Blk wr N ((pieces 32 dom).map Value.string).toArray 9) ∧ Hid (OwnStr wr w16.heap.size v (domTo dom k3)) ∧ w16.heap.size ≤ wr.heap.size) (fun i _ => (pieces 32 dom).length - (intOf i).toNat)
                    case atStart => exact ⟨0, _, Nat.zero_le _, rfl, hS16, hN16, hO16, Nat.le_refl _⟩
                    case round =>
                      obtain ⟨k3, v, hk3, rfl, hSr, hNr, hOr, hzr⟩ := hrel
                      clear hS16 hN16 hO16 hM16
                      have hMr := Lib.hid (hM.later hSr.out.b.low)
                      by_cases hlt : k3 < (pieces 32 dom).length
                      · have cN := hNr.out.cell k3 (map_at (pieces 32 dom) k3 hlt)
                        have hxz := pieces_sz 32 dom _ (List.getElem_mem hlt)
                        have hno := Lib.hid (domTo_no dom k3 hlt)
                        have hye := Lib.hid (domTo_yes dom k3 hlt)
                        generalize (pieces 32 dom)[k3] = x at cN hxz hno hye
                        have hpx := fun w' => hasPrefix_slash x w'
                        cases hsl : slashB x
                        · -- DONE{ c2n
                          rw [show (x.data.toList.head? == some 47) = false from hsl] at hpx
                          have hno' := Lib.hid (hno.out hsl)
                          clear hsl
                          go_wp2_with fail
                          refine (hpx _).mono ?_
                          rintro e w17 ⟨rfl, rfl⟩
                          go_wp2
                          go_roundw
                          case rel => exact ⟨k3 + 1, v, by omega, by go_num, hSr, hNr, by rw [hno'.out]; exact hOr, hzr⟩
                          case measure => simp [intOf]; omega
                          -- }DONE c2n
                        · -- DONE{ c2y
                          rw [show (x.data.toList.head? == some 47) = true from hsl] at hpx
                          have hye' := Lib.hid (hye.out hsl)
                          clear hsl
                          have hlen := domTo_len dom k3
                          obtain ⟨a3, cap3, rfl, hst3, hc3, hm3, _⟩ := hOr.out.shape
                          have hblk3 : ∀ g, (Value.slice a3 (domTo dom k3).length cap3).ownBlock = some g → p < g := fun g hg => by
                            have := (hOr.out.lt g hg).1
                            omega
                          have hblkN : ∀ g, (Value.slice a3 (domTo dom k3).length cap3).ownBlock = some g → N < g := fun g hg => by
                            have := (hOr.out.lt g hg).1
                            omega
                          have hS7 : At7 p (.slice a3 (domTo dom k3).length cap3) wr := ⟨hSr.out.q.cell 7 rfl, hSr.out.q.free 7⟩
                          have hS7' := Lib.hid hS7
                          have hcl := fun w' hM' => urlClean x w' hM' (by omega)
                          have hX : ∀ W', Below wr.drew.heap.size wr.drew W' → (KS w sc tk ad ps.length cap p #[.int .i64 k, .string realm, .string nonce, .string opq, .bool sess, .string q, .bool stb, .slice a3 (domTo dom k3).length cap3] W' ∧ Blk W' N ((pieces 32 dom).map Value.string).toArray 9) ∧ OwnStr W' w16.heap.size (.slice a3 (domTo dom k3).length cap3) (domTo dom k3) ∧ w16.heap.size ≤ W'.heap.size ∧ At7 p (.slice a3 (domTo dom k3).length cap3) W' := fun W' h => by
                            have h' := (Below.refl wr.heap.size wr).drew.then (Nat.le_refl _) h
                            exact ⟨⟨hSr.out.then h', hNr.out.later h'⟩, hOr.out.later h', Nat.le_trans hzr h'.size, hS7'.out.below h'⟩
                          have hpN : p ≠ N := by omega
                          have hlc : (domTo dom k3).length + 1 ≤ 1099511627776 := by omega
                          obtain ⟨q7, g7⟩ := hS7
                          clear hst3
                          go_wp2_with fail
                          refine (hpx _).mono ?_
                          rintro e wq ⟨rfl, rfl⟩
                          go_wp2_with fail
                          go_region_law ((first
                            | (refine step_append_str (by rfl) _ _ (by rfl) w17 w16.heap.size _ (domTo dom k3) (by rfl) ho17 (cleanB x) _ (by rfl) (by rfl) hlc hz17 ?_; intro v18 w18 hO18 hG18; obtain ⟨a18, c18, hv18, _⟩ := hO18.shape; generalize (domTo dom k3 ++ [cleanB x]).length = n18 at hv18; subst hv18; have hk18 := hk17.append hG18 hp hblk3; have hn18 := (hn17.alloc _).grown hG18 (fun e => absurd (hblkN N e) (Nat.lt_irrefl _)); have hq18 := hk18.q.cell 7 rfl; have hg18 := hk18.q.free 7; have hz18 : w16.heap.size ≤ w18.heap.size := Nat.le_trans hz17 (Nat.le_trans (by simp) hG18.size))
                            | (go_simp; go_at_call 45; refine (hcl _ (hMr.out.later (Below.refl _ _).drew)).mono ?_; rintro e w17 ⟨rfl, hB17⟩; obtain ⟨⟨hk17, hn17⟩, ho17, hz17, hq17, hg17⟩ := hX w17 hB17; have hp17 := hk17.q.lt)))
                          all_goals
                            go_wp2
                            go_roundw
                            case rel => exact ⟨k3 + 1, .slice a18 n18 c18, by omega, by go_num, Lib.hid (by simpa using hk18.put hp 7 (.slice a18 n18 c18)), Lib.hid (hn18.far _ _ hpN), Lib.hid (by rw [hye'.out]; exact OwnStr.put hO18 (by omega) 7 _), by simpa [World.setCell] using hz18⟩
                            case measure => simp [intOf]; omega
                          -- }DONE c2y
                      · -- DONE{ c2e
                        obtain rfl : (pieces 32 dom).length = k3 := by omega
                        rw [domTo_all] at hOr
                        obtain ⟨a3, cap3, rfl, hst3, hc3, hm3, _⟩ := hOr.out.shape
                        clear hst3
                        have hR := hSr.out.b.res
                        have hQ := hSr.out.q
                        have hlow := hSr.out.b.low
                        (repeat (first | (go_big_may; refine wpList_load_blk rfl tAsk _ rfl _ rfl hQ _ Tryd.underlying26 rfl infoAsk ?_) | (go_big_may; refine wpList_store_blk rfl tAsk _ _ rfl _ rfl hR #[.int .i64 k, .string realm, .string nonce, .string opq, .bool sess, .string q, .bool stb, .slice a3 (domOf dom).length cap3] rfl rfl infoAsk (ask_one _ _ _ _ _ _ _ _ _ _) ?_; intro wz hz hg) | go_values | go_skip | go_guarded | go_step | go_upon))
                        obtain ⟨d0, d1, d2, d3, d4, d5, d6, d7⟩ := blk_cells hz
                        (try simp only [Exit.inBlock, Exit.then])
                        refine bodyPost_ret (v := .tuple #[.agg #[.int .i64 k, .string realm, .string nonce, .string opq, .bool sess, .string q, .bool stb, .slice a3 (domOf dom).length cap3], .bool true]) (by simp [results, Tryd.results15, go_sem, d0, d1, d2, d3, d4, d5, d6, d7]; try rfl) rfl ?_
                        exact ⟨⟨⟨k, realm, nonce, opq, sess, q, stb, domOf dom⟩, a3, cap3⟩, by rw [hv5.out]; rfl, by rw [hv5.out]; rfl, (OwnStr.turned hOr.out hg (by omega)).mono (by omega), hc3, hm3, below_only hlow hg hlow.size (Nat.le_succ _)⟩
                        -- }DONE c2e
                    -- }DONE c2
      · -- DONE{ bas
        rw [hsb] at sB
        have hv := Lib.hid (hV1.out (by first | exact trivial | rfl) hsb)
        clear hsb
        go_wp2_with fail
        refine (sB _).mono ?_
        rintro e w2 ⟨rfl, hB2⟩
        have hS2 := Lib.hid (hS.out.then hB2)
        have hR := hS2.out.b.res
        have hQ := hS2.out.q
        have hlow := hS2.out.b.low
        go_upto_region 6 with (fail)
        (repeat (first | (go_big_may; refine wpList_load_blk rfl tAsk _ rfl _ rfl hQ _ Tryd.underlying26 rfl infoAsk ?_) | (go_big_may; refine wpList_store_blk rfl tAsk _ _ rfl _ rfl hR #[.int .i64 1, .string realm, .string ⟨#[]⟩, .string ⟨#[]⟩, .bool false, .string ⟨#[]⟩, .bool false, .slice none 0 0] rfl rfl infoAsk (ask_one _ _ _ _ _ _ _ _ _ _) ?_; intro wz hz hg) | go_values | go_skip | go_guarded | go_step | go_upon))
        obtain ⟨d0, d1, d2, d3, d4, d5, d6, d7⟩ := blk_cells hz
        (try simp only [Exit.inBlock, Exit.then])
        refine bodyPost_ret (v := .tuple #[.agg #[.int .i64 1, .string realm, .string ⟨#[]⟩, .string ⟨#[]⟩, .bool false, .string ⟨#[]⟩, .bool false, .slice none 0 0], .bool true]) (by simp [results, Tryd.results15, go_sem, d0, d1, d2, d3, d4, d5, d6, d7]; try rfl) rfl ?_
        exact ⟨⟨{ askZero with scheme := 1, realm := realm }, none, 0⟩, by rw [hv.out]; rfl, by rw [hv.out]; rfl, OwnStr.nil _ _, Nat.le_refl _, Nat.zero_le _, below_only hlow hg hlow.size (Nat.le_succ _)⟩
        -- }DONE bas
end Go.Proofs.YtdlhihfjigcimaaDoor
