/- The reference's List: the words of a list. -/
import Derived.Test.YtnggicpmncokdaaGreatDoorList
import Derived.Test.YtnggicpmncokdaaGreatDoorFound
namespace Go.Proofs.YtnggicpmncokdaaGreatDoor
open Go.RowKit
def ListPostR (w : World) (l : List UInt8) (e : Ending) (w' : World) : Prop :=
  ∃ v ss, e = .returned (.tuple #[v, .agg #[.int .i64 (listRes l).2.1, .int .i64 (listRes l).2.2]]) ∧ OwnStr w' w.heap.size v ss ∧ datas ss = (listRes l).1 ∧ Below w.heap.size w w'
abbrev lbox : Obj := .cells #[.int .i64 0, .int .i64 0] 66
theorem listP_next {p : List UInt8} {ps : List (List UInt8)} {k : Nat} {acc : List (List UInt8)} (h : Lib.trimS p [32, 9] = []) : listP (p :: ps) k acc = listP ps (k + p.length + 1) acc := by
  obtain ⟨h1, h2⟩ := piece_empty h
  rw [listP_go h2, if_pos h1]
theorem listP_word {p : List UInt8} {ps : List (List UInt8)} {k : Nat} {acc : List (List UInt8)} (h : tokW (Lib.trimS p [32, 9]) = true) : listP (p :: ps) k acc = listP ps (k + p.length + 1) (acc ++ [Lib.trimS p [32, 9]]) := by
  obtain ⟨h1, h2⟩ := piece_word h
  rw [listP_go h2, h1, if_neg (by intro e; rw [e] at h; cases h)]
theorem OwnStr.put {w : World} {base q : Nat} {v : Value} {ss : List ByteArray} (h : OwnStr w base v ss) (hp : q < base) (i : Nat) (u : Value) : OwnStr (w.setCell ⟨q, i, none⟩ u) base v ss :=
  h.turned (p := q) (only_setCell (only_refl w (some q)) (.inl rfl) u) hp
theorem reach_zero {t : List UInt8} (h : (t.takeWhile tokB).length = 0) : reachOf t = 0 := by unfold reachOf; rw [if_pos h]
theorem reach_pos {t : List UInt8} {j : Nat} (h : (t.takeWhile tokB).length = j) (h0 : 0 < j) : reachOf t = j + (spanAt isBl t j).length := by
  unfold reachOf spanAt
  rw [if_neg (by omega), h, ← h, dropW_drop]
theorem not_tok {t : List UInt8} (h : tokW t = false) (h0 : t ≠ []) : (t.takeWhile tokB).length < t.length := by
  have hl := tw_len tokB t
  cases hd : t.dropWhile tokB with
  | cons a r => rw [hd] at hl; simp only [List.length_cons] at hl; omega
  | nil =>
    have ha := dropWhile_nil.1 hd
    unfold tokW at h
    rw [ha] at h
    simp [h0] at h
set_option maxRecDepth 100000 in
set_option maxHeartbeats 2000000 in
set_option linter.unusedSimpArgs false in
theorem refList (s : ByteArray) (w : World) (hM : MaxL w) (hs : s.size ≤ 1000000) :
    Calls Tryz.prog 23 #[.string s] w (ListPostR w s.data.toList) := by
  go_enter Tryz.func23, Tryz.ntmps23
  have hbox : Below w.heap.size w (w.alloc lbox) := (Below.refl _ _).alloc (Nat.le_refl _) _
  have hM0 := hM.later hbox
  have hsp := stringsSplit 44 s (w.alloc lbox) hM0 hs
  go_wp2_with fail
  refine hsp.mono ?_
  clear hsp
  rintro e w1 ⟨rfl, hw1⟩
  have hP : StrAt w1 (some ⟨w.heap.size + 1, 0, none⟩) (pieces 44 s) := by
    have := pieces_at (w.alloc lbox) (pieces 44 s)
    rw [World.size_alloc] at this
    rw [← hw1]; exact this
  have hBB1 : Below (w.heap.size + 1) (w.alloc lbox) w1 := by rw [← hw1]; exact (Below.refl _ _).alloc (by simp) _
  have hBB1' := Lib.hid hBB1
  have hM1 := hM0.later (by rw [World.size_alloc]; exact hBB1)
  have hsz0 : w.heap.size + 1 ≤ w1.heap.size := by have := hBB1.size; simpa using this
  clear hw1 hBB1 hM0 hbox
  have hps := pieces_le 44 s
  go_wp2
  go_loopw [4, 5, 14] (fun v at_ i wr => ∃ (k pos : Nat) (ss : List ByteArray), k ≤ (pieces 44 s).length ∧ i = .int .i64 k ∧ at_ = .int .i64 pos ∧ pos ≤ k * 1000001 ∧ ss.length ≤ k ∧ Hid (OwnStr wr w1.heap.size v ss) ∧ Hid (Below w1.heap.size w1 wr) ∧ Hid (listL s.data.toList = listP ((cutL 44 s.data.toList).drop k) pos (datas ss))) (fun _ _ i _ => (pieces 44 s).length - (intOf i).toNat)
  case atStart => exact ⟨0, 0, [], Nat.zero_le _, rfl, rfl, Nat.zero_le _, Nat.zero_le _, Lib.hid (OwnStr.nil _ _), Lib.hid (Below.refl _ _), Lib.hid rfl⟩
  case round =>
    obtain ⟨k, pos, ss, hk, rfl, rfl, hpos, hsl, hO, hB, hinv⟩ := hrel
    obtain ⟨a3, cap3, rfl, _, hcap3, hcm3, _⟩ := hO.out.shape
    have hBB : Below (w.heap.size + 1) (w.alloc lbox) wr := hBB1'.out.then (by simp) hB.out
    have q0 := box_cell hBB 0 (v := .int .i64 0) rfl
    have q1 := box_cell hBB 1 (v := .int .i64 0) rfl
    have f0 := box_free hBB 0
    have f1 := box_free hBB 1
    have hBw := Lib.hid (below_box hBB)
    have hbs : w.heap.size < wr.heap.size := Nat.lt_of_lt_of_le (by simp) hBB.size
    clear hBB
    by_cases hlt : k < (pieces 44 s).length
    · obtain ⟨b, off, hbo, hc⟩ := (hP.later hB.out) k hlt
      cases hbo
      have hxs := pieces_sz 44 s _ (List.getElem_mem hlt)
      have hdrop : (cutL 44 s.data.toList).drop k = (pieces 44 s)[k].data.toList :: (cutL 44 s.data.toList).drop (k + 1) := by
        rw [← pieces_datas]
        rw [List.drop_eq_getElem_cons (by simpa [datas] using hlt)]
        simp [datas]
      rw [Nat.zero_add] at hc
      generalize hx : (pieces 44 s)[k] = x at hc hxs hdrop
      clear hx
      have hdrop' := Lib.hid hdrop
      clear hdrop
      obtain ⟨m, hm⟩ := hM1.later hB.out
      have htr := fun w' => stringsTrim x ⟨#[32, 9]⟩ w' (by omega) (by decide) blanks_ascii
      obtain ⟨T, hT⟩ : ∃ T : ByteArray, T = ⟨(Lib.trimS x.data.toList [32, 9]).toArray⟩ := ⟨_, rfl⟩
      rw [show (⟨#[32, 9]⟩ : ByteArray).data.toList = [32, 9] from rfl, ← hT] at htr
      have hTl : T.data.toList = Lib.trimS x.data.toList [32, 9] := by rw [hT, mk_toList]
      have hTs : T.size ≤ x.size := by rw [sz_len, hTl, sz_len]; exact trimS_len _ _
      clear hT
      have hxz : pos + x.data.toList.length + 1 = pos + x.size + 1 := by rw [← sz_len]
      have hxz' := Lib.hid hxz
      clear hxz
      by_cases h0 : Lib.trimS x.data.toList [32, 9] = []
      · have hTe : T.toList.isEmpty = true := by rw [Lib.toList_data, hTl, h0]; rfl
        have hn : Hid (listL s.data.toList = listP ((cutL 44 s.data.toList).drop (k + 1)) (pos + x.size + 1) (datas ss)) := Lib.hid (hinv.out.trans (by rw [hdrop'.out, listP_next h0, hxz'.out]))
        clear hTl h0 hm q0 q1 f0 f1
        go_wp2_with fail
        refine (htr _).mono ?_
        rintro e w2 ⟨rfl, hB2⟩
        have hO2 := Lib.hid (hO.out.later hB2)
        have hB3 := Lib.hid (hB.out.then (Nat.le_refl _) hB2)
        go_wp2
        go_roundw
        case rel => exact ⟨k + 1, pos + x.size + 1, ss, by omega, by go_num, by go_num, by omega, by omega, hO2, hB3, hn⟩
        case measure => simp [intOf]; omega
      · have hTe : T.toList.isEmpty = false := by
          rw [Lib.toList_data, hTl]
          cases hq : Lib.trimS x.data.toList [32, 9] with
          | nil => exact absurd hq h0
          | cons a r => rfl
        have htok := fun w' => refToken T w' (by unfold maxLen; omega)
        rw [hTl] at htok
        cases hw : tokW (Lib.trimS x.data.toList [32, 9])
        · obtain ⟨hrn, j0, hidx, hj0, hend⟩ := piece_bad h0 hw
          have hfin : Hid (listL s.data.toList = .inr (pos + (j0 + reachOf T.data.toList))) := Lib.hid (hinv.out.trans (by rw [hdrop'.out, listP_bad hrn, hend, hTl]))
          have hres := Lib.hid (listRes_bad hfin.out)
          have hix := fun w' hm => Tryz.strings_Index x T m w' (by omega) hm
          rw [hTl, hidx] at hix
          rw [← sz_len] at hj0
          have hnall : Hid ((T.data.toList.takeWhile tokB).length < T.size) := Lib.hid (by rw [sz_len, hTl]; exact not_tok hw h0)
          rw [hw] at htok
          have hTl' := Lib.hid hTl
          clear hTl h0 hidx hend hrn hw
          go_wp2_with fail
          refine (htr _).mono ?_
          rintro e w2 ⟨rfl, hB2⟩
          have hm2 := (hB2.cell (World.block_lt_of_cell? wr _ hm)).trans hm
          have q0' := (hB2.cell (p := ⟨w.heap.size, 0, none⟩) hbs).trans q0
          have q1' := (hB2.cell (p := ⟨w.heap.size, 1, none⟩) hbs).trans q1
          have f0' := (hB2.frozen (p := ⟨w.heap.size, 0, none⟩) hbs).trans f0
          have f1' := (hB2.frozen (p := ⟨w.heap.size, 1, none⟩) hbs).trans f1
          have hB3 := Lib.hid (hBw.out.then (Nat.le_refl _) hB2)
          clear q0 q1 f0 f1 hm
          go_wp2_with fail
          refine (htok _).mono ?_
          rintro e w3 ⟨rfl, rfl⟩
          go_wp2_with fail
          refine (hix _ hm2).mono ?_
          rintro e w3 ⟨rfl, rfl⟩
          clear hix htok htr hm2
          go_wp2
          go_loopg [10] T.size (fun g n wq => ∃ j : Nat, j ≤ T.size ∧ Hid (g = T.size - j) ∧ n = .int .i64 j ∧ w3 = wq ∧ Hid ((T.data.toList.takeWhile tokB).length = j + (spanAt tokB T.data.toList j).length))
          case atStart => exact ⟨0, Nat.zero_le _, Lib.hid rfl, rfl, rfl, Lib.hid (by unfold spanAt; simp)⟩
          case round =>
            obtain ⟨j, hj, hg, rfl, rfl, hsp⟩ := hrel
            by_cases hjt : j < T.size
            · have hjl : j < T.data.toList.length := by rw [← sz_len]; exact hjt
              have hbd := bd8 T[j]
              cases hb : tokB T[j]
              · have hlen : Hid ((T.data.toList.takeWhile tokB).length = j) := Lib.hid (by
                  have := hsp.out
                  rw [spanAt_stop hjl (by rw [at_list T j hjt hjl]; exact hb)] at this
                  simpa using this)
                have htb := refTokenByte T[j] w3
                rw [hb] at htb
                clear hb
                go_wp2_with fail
                refine htb.mono ?_
                rintro e w4 ⟨rfl, rfl⟩
                by_cases hz : j = 0
                · subst hz
                  have hre := Lib.hid (reach_zero hlen.out)
                  clear htb
                  go_wp2
                  obtain ⟨c0, c1⟩ := set_two (.int .i64 3) (.int .i64 ((pos : Int) + (j0 : Int))) q0' q1'
                  (try simp only [Exit.inBlock, Exit.then])
                  refine bodyPost_ret (by simp [results, Tryz.results23, go_sem, c0, c1]; try rfl) rfl ?_
                  refine ⟨_, [], ?_, OwnStr.nil _ _, by rw [hres.out]; rfl, ?_⟩
                  · rw [hres.out, hre.out, show ((pos + (j0 + 0) : Nat) : Int) = (pos : Int) + (j0 : Int) by omega]
                    first | done | rfl
                  · have hb3 := hB3.out
                    go_grown
                · have hz' : 0 < j := by omega
                  have hre := Lib.hid (reach_pos hlen.out hz')
                  clear htb hz
                  go_wp2
                  obtain ⟨w4, hw4⟩ : ∃ w4, w4 = w3 := ⟨_, rfl⟩
                  subst hw4
                  go_loopg [10] (T.size - j) (fun g n wq => ∃ i : Nat, j ≤ i ∧ i ≤ T.size ∧ Hid (g = T.size - i) ∧ n = .int .i64 i ∧ w4 = wq ∧ Hid ((spanAt isBl T.data.toList j).length = (i - j) + (spanAt isBl T.data.toList i).length))
                  case atStart => exact ⟨j, Nat.le_refl _, by omega, Lib.hid rfl, rfl, rfl, Lib.hid (by omega)⟩
                  case round =>
                    obtain ⟨i, hji, hi, hg2, rfl, rfl, hsb⟩ := hrel
                    by_cases hit : i < T.size
                    · have hil : i < T.data.toList.length := by rw [← sz_len]; exact hit
                      have hbd2 := bd8 T[i]
                      cases hb : isBl T[i]
                      · have hst : Hid (reachOf T.data.toList = i) := Lib.hid (by
                          have h1 := hsb.out
                          rw [spanAt_stop hil (by rw [at_list T i hit hil]; exact hb)] at h1
                          have h2 := hre.out
                          simp only [List.length_nil] at h1
                          omega)
                        rw [isBl_iff] at hb
                        have hb1 : ((T[i].toNat : Int) == 32) = false := by cases hq : ((T[i].toNat : Int) == 32) <;> simp_all
                        have hb2 : ((T[i].toNat : Int) == 9) = false := by cases hq : ((T[i].toNat : Int) == 9) <;> simp_all
                        clear hb
                        go_wp2
                        obtain ⟨c0, c1⟩ := set_two (.int .i64 3) (.int .i64 ((pos : Int) + (j0 : Int) + (i : Int))) q0' q1'
                        (try simp only [Exit.inBlock, Exit.then])
                        refine bodyPost_ret (by simp [results, Tryz.results23, go_sem, c0, c1]; try rfl) rfl ?_
                        refine ⟨_, [], ?_, OwnStr.nil _ _, by rw [hres.out]; rfl, ?_⟩
                        · rw [hres.out, hst.out, show ((pos + (j0 + i) : Nat) : Int) = (pos : Int) + (j0 : Int) + (i : Int) by omega]
                          first | done | rfl
                        · have hb3 := hB3.out
                          go_grown
                      · have hgo : Hid ((spanAt isBl T.data.toList j).length = (i + 1 - j) + (spanAt isBl T.data.toList (i + 1)).length) := Lib.hid (by
                          have h1 := hsb.out
                          rw [spanAt_go hil (by rw [at_list T i hit hil]; exact hb), List.length_cons] at h1
                          omega)
                        rw [isBl_iff] at hb
                        cases hb1 : ((T[i].toNat : Int) == 32)
                        · have hb2 : ((T[i].toNat : Int) == 9) = true := by rw [hb1] at hb; simpa using hb
                          clear hb
                          go_wp2
                          go_roundg (T.size - (i + 1))
                          case rel => exact ⟨i + 1, by omega, by omega, Lib.hid rfl, by go_num, rfl, hgo⟩
                          case measure => have := hg2.out; omega
                        · clear hb
                          go_wp2
                          go_roundg (T.size - (i + 1))
                          case rel => exact ⟨i + 1, by omega, by omega, Lib.hid rfl, by go_num, rfl, hgo⟩
                          case measure => have := hg2.out; omega
                    · obtain rfl : T.size = i := by omega
                      have hst : Hid (reachOf T.data.toList = T.size) := Lib.hid (by
                        have h1 := hsb.out
                        rw [spanAt_end (p := isBl) (l := T.data.toList) (k := T.size) (by rw [← sz_len]; exact Nat.le_refl _)] at h1
                        have h2 := hre.out
                        simp only [List.length_nil] at h1
                        omega)
                      go_wp2
                      obtain ⟨c0, c1⟩ := set_two (.int .i64 3) (.int .i64 ((pos : Int) + (j0 : Int) + (T.size : Int))) q0' q1'
                      (try simp only [Exit.inBlock, Exit.then])
                      refine bodyPost_ret (by simp [results, Tryz.results23, go_sem, c0, c1]; try rfl) rfl ?_
                      refine ⟨_, [], ?_, OwnStr.nil _ _, by rw [hres.out]; rfl, ?_⟩
                      · rw [hres.out, hst.out, show ((pos + (j0 + T.size) : Nat) : Int) = (pos : Int) + (j0 : Int) + (T.size : Int) by omega]
                        first | done | rfl
                      · have hb3 := hB3.out
                        go_grown
              · have hgo : Hid ((T.data.toList.takeWhile tokB).length = (j + 1) + (spanAt tokB T.data.toList (j + 1)).length) := Lib.hid (by
                  have h1 := hsp.out
                  rw [spanAt_go hjl (by rw [at_list T j hjt hjl]; exact hb), List.length_cons] at h1
                  omega)
                have htb := refTokenByte T[j] w3
                rw [hb] at htb
                clear hb
                go_wp2_with fail
                refine htb.mono ?_
                rintro e w4 ⟨rfl, rfl⟩
                clear htb
                go_wp2
                go_roundg (T.size - (j + 1))
                case rel => exact ⟨j + 1, by omega, Lib.hid rfl, by go_num, rfl, hgo⟩
                case measure => have := hg.out; omega
            · exfalso
              have h1 := hsp.out
              rw [spanAt_end (by rw [← sz_len]; omega)] at h1
              have h2 := hnall.out
              simp only [List.length_nil] at h1
              omega
        · have hn : Hid (listL s.data.toList = listP ((cutL 44 s.data.toList).drop (k + 1)) (pos + x.size + 1) (datas (ss ++ [T]))) := Lib.hid (hinv.out.trans (by rw [hdrop'.out, listP_word hw, hxz'.out, datas_snoc _ _ _ hTl]))
          rw [hw] at htok
          clear hTl h0 hw hm q0 q1 f0 f1
          go_wp2_with fail
          refine (htr _).mono ?_
          rintro e w2 ⟨rfl, hB2⟩
          have hO2 := hO.out.later hB2
          have hB3 := hB.out.then (Nat.le_refl _) hB2
          go_wp2_with fail
          refine (htok _).mono ?_
          rintro e w3 ⟨rfl, rfl⟩
          have hcl : ss.length + 1 ≤ 1099511627776 := by omega
          have hbs2 := hB3.size
          go_wp2_with (at_builtin; refine wpList_append_str rfl _ _ rfl _ w1.heap.size _ ss rfl ?_ T _ rfl ?_ ?_ ?_ ?_; exact hO2; exact rfl; exact hcl; exact hbs2; intro v4 w4 hO4 hG4)
          go_wp2
          go_roundw
          case rel => exact ⟨k + 1, pos + x.size + 1, ss ++ [T], by omega, by go_num, by go_num, by omega, by simp; omega, Lib.hid hO4, Lib.hid (below_append hB3 hO2 hG4 hB3.size), hn⟩
          case measure => simp [intOf]; omega
    · obtain rfl : (pieces 44 s).length = k := by omega
      have hfin : Hid (listL s.data.toList = .inl (datas ss)) := Lib.hid (hinv.out.trans (by rw [List.drop_eq_nil_of_le (by rw [← pieces_datas]; simp [datas])]; rfl))
      have hdl : (datas ss).length = ss.length := by simp [datas]
      by_cases h40 : 40 < ss.length
      · have hres : Hid (listRes s.data.toList = ([], 4, -1)) := Lib.hid (listRes_many hfin.out (by omega))
        clear hdl
        go_wp2_with fail
        refine (bare_made 4 _).mono ?_
        rintro e w2 ⟨rfl, hB2⟩
        have q0' := (hB2.cell (p := ⟨w.heap.size, 0, none⟩) hbs).trans q0
        have q1' := (hB2.cell (p := ⟨w.heap.size, 1, none⟩) hbs).trans q1
        have f0' := (hB2.frozen (p := ⟨w.heap.size, 0, none⟩) hbs).trans f0
        have f1' := (hB2.frozen (p := ⟨w.heap.size, 1, none⟩) hbs).trans f1
        have hB3 := Lib.hid (hBw.out.then (Nat.le_refl _) hB2)
        clear q0 q1 f0 f1
        go_wp2
        obtain ⟨c0, c1⟩ := set_two (.int .i64 4) (.int .i64 (-1)) q0' q1'
        (try simp only [Exit.inBlock, Exit.then])
        refine bodyPost_ret (by simp [results, Tryz.results23, go_sem, c0, c1]; try rfl) rfl ?_
        refine ⟨_, [], ?_, OwnStr.nil _ _, by rw [hres.out]; rfl, ?_⟩
        · rw [hres.out]
        · have hb3 := hB3.out
          go_grown
      · have hres : Hid (listRes s.data.toList = (datas ss, 0, -1)) := Lib.hid (listRes_ok hfin.out (by omega))
        clear hdl
        go_wp2_with fail
        refine (good_is _).mono ?_
        rintro e w2 ⟨rfl, hB2⟩
        have q0' := (hB2.cell (p := ⟨w.heap.size, 0, none⟩) hbs).trans q0
        have q1' := (hB2.cell (p := ⟨w.heap.size, 1, none⟩) hbs).trans q1
        have f0' := (hB2.frozen (p := ⟨w.heap.size, 0, none⟩) hbs).trans f0
        have f1' := (hB2.frozen (p := ⟨w.heap.size, 1, none⟩) hbs).trans f1
        have hO2 := Lib.hid (hO.out.later hB2)
        have hB3 := Lib.hid (hBw.out.then (Nat.le_refl _) hB2)
        have hpb : w.heap.size < w1.heap.size := by omega
        clear q0 q1 f0 f1
        go_wp2
        obtain ⟨c0, c1⟩ := set_two (.int .i64 0) (.int .i64 (-1)) q0' q1'
        (try simp only [Exit.inBlock, Exit.then])
        refine bodyPost_ret (by simp [results, Tryz.results23, go_sem, c0, c1]; try rfl) rfl ?_
        refine ⟨.slice a3 ss.length cap3, ss, ?_, ?_, by rw [hres.out], ?_⟩
        · rw [hres.out]
        · exact OwnStr.base (OwnStr.put (OwnStr.put hO2.out hpb 0 _) hpb 1 _) (Nat.le_of_lt hpb)
        · have hb3 := hB3.out
          go_grown
end Go.Proofs.YtnggicpmncokdaaGreatDoor
