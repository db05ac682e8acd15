/- cors.Fields: the lines of an answer. -/
import Derived.Test.YtmpgamnpmgedkaaDoorFieldsQ
import Derived.Test.YtmpgamnpmgedkaaDoorBoxR
namespace Go.Proofs.YtmpgamnpmgedkaaDoor
open Go.RowKit
set_option maxRecDepth 100000 in
set_option maxHeartbeats 1000000 in
theorem corsFields (s : ByteArray) (w : World) (hM : MaxL w) (hs : s.size ≤ 1000000) :
    Calls Tryd.prog 41 #[.string s] w (FieldsPost w s.data.toList) := by
  go_enter Tryd.func41, Tryd.ntmps41
  by_cases hl : 3000 < s.size
  · have hr := Lib.hid (fr_long (l := s.data.toList) (by rw [← sz_len]; exact hl))
    go_wp2
    go_ret2
    exact ⟨_, _, [], rfl, OwnG.nil _ _, by rw [hr.out]; rfl, by rw [hr.out]; exact ErrIs.num _ 4, (fun h => by rw [hr.out] at h; cases h), Below.refl _ _⟩
  · have hl' : ¬3000 < s.data.toList.length := by rw [← sz_len]; exact hl
    have hsp := stringsSplit 10 s w hM hs
    go_wp2_with fail
    refine hsp.mono ?_
    clear hsp
    rintro e w1 ⟨rfl, hw1⟩
    have hP : StrAt w1 (some ⟨w.heap.size, 0, none⟩) (pieces 10 s) := by rw [← hw1]; exact pieces_at w _
    have hB0 : Below w.heap.size w w1 := by rw [← hw1]; exact (Below.refl _ _).alloc (Nat.le_refl _) _
    have hM1 := hM.later hB0
    have hB0' := Lib.hid hB0
    have hl'' := Lib.hid hl'
    have hsz0 := hB0.size
    clear hw1 hB0 hl'
    have hps := pieces_le 10 s
    go_wp2
    go_loopw [4, 17] (fun v i wr => ∃ (k : Nat) (ps : List (ByteArray × ByteArray)), k ≤ (pieces 10 s).length ∧ i = .int .i64 k ∧ ps.length ≤ 40 ∧ Hid (OwnPar wr w1.heap.size v ps) ∧ Hid (Below w1.heap.size w1 wr) ∧ Hid (fieldsP (cutL 10 s.data.toList) 0 [] = fieldsP ((cutL 10 s.data.toList).drop k) k (pdatas ps))) (fun _ i _ => (pieces 10 s).length - (intOf i).toNat)
    case atStart => exact ⟨0, [], Nat.zero_le _, rfl, by decide, Lib.hid (OwnG.nil _ _), Lib.hid (Below.refl _ _), Lib.hid rfl⟩
    case round =>
      obtain ⟨k, ps, hk, rfl, hpl, hO, hB, hinv⟩ := hrel
      obtain ⟨a3, cap3, rfl, _, hcap3, hcm3, _⟩ := OwnG.shape encPar_len hO.out
      have hBw := Lib.hid (hB0'.out.then (Nat.le_refl _) hB.out)
      by_cases hlt : k < (pieces 10 s).length
      · obtain ⟨b, off, hbo, hc⟩ := (hP.later hB.out) k hlt
        cases hbo
        have hxs := pieces_sz 10 s _ (List.getElem_mem hlt)
        have hdrop : (cutL 10 s.data.toList).drop k = (pieces 10 s)[k].data.toList :: (cutL 10 s.data.toList).drop (k + 1) := by
          rw [← pieces_datas]
          rw [List.drop_eq_getElem_cons (by simpa [datas] using hlt)]
          simp [datas]
        rw [Nat.zero_add] at hc
        generalize hx : (pieces 10 s)[k] = x at hc hxs hdrop
        clear hx
        have hdrop' := Lib.hid hdrop
        clear hdrop
        obtain ⟨m, hm⟩ := hM1.later hB.out
        have ht := Tryd.strings_TrimSuffix x ⟨#[13]⟩ wr (by omega)
        obtain ⟨y, hy⟩ : ∃ y : ByteArray, y = ⟨(Lib.trimSuffix x.data.toList [13]).toArray⟩ := ⟨_, rfl⟩
        have hyl : y.data.toList = chop x.data.toList := by rw [hy, mk_toList, trim_chop]
        have hys : y.size ≤ 1000000 := by
          have := chop_len x.data.toList
          rw [sz_len, hyl]
          rw [← sz_len] at this
          omega
        rw [show (⟨#[13]⟩ : ByteArray).data.toList = [13] from rfl, ← hy] at ht
        clear hy
        go_wp2_with fail
        refine ht.mono ?_
        clear ht
        rintro e w2 ⟨rfl, rfl⟩
        by_cases h0 : chop x.data.toList = []
        · have hye : y.toList.isEmpty = true := by rw [Lib.toList_data, hyl, h0]; rfl
          have hn := Lib.hid (hinv.out.trans (by rw [hdrop'.out, fieldsP_skip h0]))
          clear hyl h0 hm hc
          go_wp2
          go_roundw
          case rel => exact ⟨k + 1, ps, by omega, by go_num, hpl, hO, hB, hn⟩
          case measure => simp [intOf]; omega
        · have hye : y.toList.isEmpty = false := by
            rw [Lib.toList_data, hyl]
            cases hq : chop x.data.toList with
            | nil => exact absurd hq h0
            | cons a r => rfl
          have hcut := Tryd.strings_Cut y ⟨#[58]⟩ m w2 (by omega) hm
          rw [show (⟨#[58]⟩ : ByteArray).data.toList = [58] from rfl, hyl] at hcut
          cases hcol : hasColon (chop x.data.toList)
          · rw [cut_no (c := 58) hcol] at hcut
            have hr := Lib.hid (fr_form hl''.out (hinv.out.trans (by rw [hdrop'.out, fieldsP_form h0 (.inl hcol)])))
            clear hyl h0 hm hc hcol
            go_wp2_with fail
            refine hcut.mono ?_
            rintro e w3 ⟨rfl, nq, rfl⟩
            have hB3 := Lib.hid (below_drewN hBw.out nq)
            have hsz1 := hBw.out.size
            go_wp2
            go_ret2
            refine ⟨_, _, [], rfl, OwnG.nil _ _, by rw [hr.out]; rfl, ?_, (fun h => by rw [hr.out] at h; cases h), hB3.out.alloc (by simpa using hsz1) _⟩
            rw [hr.out]
            exact .inr (.inr ⟨_, rfl, new_cell _ _ _ _ 0 rfl rfl, new_cell _ _ _ _ 1 rfl rfl⟩)
          · rw [cut_has (c := 58) hcol] at hcut
            obtain ⟨N, hN⟩ : ∃ N : ByteArray, N = ⟨(befL 58 (chop x.data.toList)).toArray⟩ := ⟨_, rfl⟩
            obtain ⟨V, hV⟩ : ∃ V : ByteArray, V = ⟨((chop x.data.toList).drop ((befL 58 (chop x.data.toList)).length + 1)).toArray⟩ := ⟨_, rfl⟩
            have hNl : N.data.toList = nameOf (chop x.data.toList) := by rw [hN, mk_toList]; rfl
            have hVl : V.data.toList = (chop x.data.toList).drop ((nameOf (chop x.data.toList)).length + 1) := by rw [hV, mk_toList]; rfl
            simp only [] at hcut
            rw [← hN, ← hV] at hcut
            clear hN hV
            have hNs : N.size ≤ 1000000 := by
              rw [sz_len, hNl]
              have := nameOf_len (chop x.data.toList)
              rw [← hyl, ← sz_len] at this
              rw [← hyl]
              omega
            have hVs : V.size ≤ 1000000 := by
              rw [sz_len, hVl, ← hyl, List.length_drop, ← sz_len]
              omega
            have htok := fun w' => tokenIs N w' (by unfold maxLen; omega)
            rw [hNl] at htok
            cases hw : tokW (nameOf (chop x.data.toList))
            · have hr := Lib.hid (fr_form hl''.out (hinv.out.trans (by rw [hdrop'.out, fieldsP_form h0 (.inr hw)])))
              rw [hw] at htok
              clear hyl h0 hm hc hcol hw hNl hVl
              go_wp2_with fail
              refine hcut.mono ?_
              rintro e w3 ⟨rfl, nq, rfl⟩
              have hB3 := Lib.hid (below_drewN hBw.out nq)
              have hsz1 := hBw.out.size
              go_wp2_with fail
              refine (htok _).mono ?_
              rintro e w4 ⟨rfl, rfl⟩
              go_wp2
              go_ret2
              refine ⟨_, _, [], rfl, OwnG.nil _ _, by rw [hr.out]; rfl, ?_, (fun h => by rw [hr.out] at h; cases h), hB3.out.alloc (by simpa using hsz1) _⟩
              rw [hr.out]
              exact .inr (.inr ⟨_, rfl, new_cell _ _ _ _ 0 rfl rfl, new_cell _ _ _ _ 1 rfl rfl⟩)
            · rw [hw] at htok
              by_cases h40 : ps.length = 40
              · have hr := Lib.hid (fr_limit hl''.out (hinv.out.trans (by rw [hdrop'.out, fieldsP_limit h0 hcol hw (by rw [pdatas_len]; exact h40)])))
                have h40' : ((ps.length : Int) == 40) = true := by rw [beq_iff_eq]; omega
                clear hyl h0 hm hc hcol hw hNl hVl h40
                go_wp2_with fail
                refine hcut.mono ?_
                rintro e w3 ⟨rfl, nq, rfl⟩
                have hB3 := Lib.hid (below_drewN hBw.out nq)
                go_wp2_with fail
                refine (htok _).mono ?_
                rintro e w4 ⟨rfl, rfl⟩
                go_wp2
                go_ret2
                exact ⟨_, _, [], rfl, OwnG.nil _ _, by rw [hr.out]; rfl, by rw [hr.out]; exact ErrIs.num _ 4, (fun h => by rw [hr.out] at h; cases h), hB3.out⟩
              · have h40' : ((ps.length : Int) == 40) = false := by rw [beq_eq_false_iff_ne]; omega
                have hpl' : ps.length < 40 := by omega
                have htr := fun w' => stringsTrim V ⟨#[32, 9]⟩ w' (by omega) (by decide) blanks_ascii
                obtain ⟨Y, hY⟩ : ∃ Y : ByteArray, Y = ⟨(Lib.trimS V.data.toList [32, 9]).toArray⟩ := ⟨_, rfl⟩
                rw [show (⟨#[32, 9]⟩ : ByteArray).data.toList = [32, 9] from rfl, ← hY] at htr
                have hn : Hid (fieldsP (cutL 10 s.data.toList) 0 [] = fieldsP ((cutL 10 s.data.toList).drop (k + 1)) (k + 1) (pdatas (ps ++ [(N, Y)]))) :=
                  Lib.hid (hinv.out.trans (by
                    rw [hdrop'.out, fieldsP_go h0 hcol hw (by rw [pdatas_len]; exact h40), pdatas_snoc]
                    rw [hNl, hY, mk_toList, hVl]
                    rfl))
                clear hyl h0 hm hc hcol hw hNl hVl hY h40
                go_wp2_with fail
                refine hcut.mono ?_
                rintro e w3 ⟨rfl, nq, rfl⟩
                have hB3 := below_drewN hB.out nq
                have hO3 := hO.out.later (below_drewN (Below.refl _ _) nq)
                go_wp2_with fail
                refine (htok _).mono ?_
                rintro e w4 ⟨rfl, rfl⟩
                go_wp2_with fail
                refine (htr _).mono ?_
                rintro e w5 ⟨rfl, hB5⟩
                have hO5 := hO3.later hB5
                have hB5' := hB3.then (Nat.le_refl _) hB5
                have hl1 : ps.length + 1 ≤ maxLen := by unfold maxLen; omega
                have hl2 : (ps.length + 1) * 32 ≤ 140737488355328 := by omega
                have hbs := hB5'.size
                go_wp2_with (at_builtin; refine wpList_append_one infoPar Tryd.underlying46 rfl (by decide) encPar_len rfl _ _ rfl _ w1.heap.size _ ps rfl ?_ (N, Y) (encPar_one _) _ rfl _ rfl ?_ ?_ ?_ ?_ ?_; exact hO5; exact rfl; exact hl1; exact hl2; exact hbs; intro v6 w6 hO6 hG6 hne6)
                go_wp2
                go_roundw
                case rel => exact ⟨k + 1, ps ++ [(N, Y)], by omega, by go_num, by simp; omega, Lib.hid hO6, Lib.hid (below_append hB5' hO5 hG6 hB5'.size), hn⟩
                case measure => simp [intOf]; omega
      · obtain rfl : (pieces 10 s).length = k := by omega
        have hr := Lib.hid (fr_ok hl''.out (hinv.out.trans (by rw [List.drop_eq_nil_of_le (by rw [← pieces_datas]; simp [datas])]; rfl)))
        go_wp2
        go_ret2
        exact ⟨_, _, ps, rfl, hO.out.base (by omega), by rw [hr.out], by rw [hr.out]; exact ErrIs.none _, fun _ => rfl, hBw.out⟩
end Go.Proofs.YtmpgamnpmgedkaaDoor
