/- The reference's Fields: the lines of an answer. -/
import Derived.Test.YtmpgamnpmgedkaaDoorFieldsQ
import Derived.Test.YtmpgamnpmgedkaaDoorBoxR
import Derived.Test.YtmpgamnpmgedkaaDoorBlk
import Derived.Test.YtmpgamnpmgedkaaDoorOwnS
namespace Go.Proofs.YtmpgamnpmgedkaaDoor
open Go.RowKit
theorem chop_yes (x : ByteArray) (h : 0 < x.size) (hc : x[x.size - 1]'(by omega) = 13) : (x.extract 0 (x.size - 1)).data.toList = chop x.data.toList := by
  have hl : x.data.toList.getLast? = some 13 := by
    rw [List.getLast?_eq_getElem?, ← sz_len, List.getElem?_eq_getElem (by rw [← sz_len]; omega), at_list x (x.size - 1) (by omega) (by rw [← sz_len]; omega), hc]
  unfold chop
  rw [if_pos hl, Lib.extract_data, List.drop_zero, List.dropLast_eq_take, ← sz_len]
  rfl
theorem chop_no (x : ByteArray) (h : ∀ h : 0 < x.size, x[x.size - 1]'(by omega) ≠ 13) : x.data.toList = chop x.data.toList := by
  unfold chop
  rw [if_neg]
  intro hl
  by_cases h0 : 0 < x.size
  · rw [List.getLast?_eq_getElem?, ← sz_len, List.getElem?_eq_getElem (by rw [← sz_len]; omega), at_list x (x.size - 1) (by omega) (by rw [← sz_len]; omega)] at hl
    exact h h0 (Option.some.inj hl)
  · have : x.data.toList = [] := List.length_eq_zero_iff.1 (by rw [← sz_len]; omega)
    rw [this] at hl; cases hl
theorem u8eq13 (c : UInt8) : ((c.toNat : Int) == 13) = (c == 13) := by
  cases h : (c == 13)
  · simp only [beq_eq_false_iff_ne, ne_eq] at h ⊢
    intro e
    apply h
    apply UInt8.toNat.inj
    show c.toNat = 13
    omega
  · simp only [beq_iff_eq] at h ⊢
    rw [h]; rfl
theorem OwnG.put {α : Type} {T : TypeId} {n : Nat} {enc : α → List Value} {w : World} {base p : Nat} {v : Value} {l : List α} (h : OwnG T n enc w base v l) (hp : p < base) (i : Nat) (u : Value) : OwnG T n enc (w.setCell ⟨p, i, none⟩ u) base v l := by
  refine World.ownsRow.kept h (only_setCell (g := p) (p := ⟨p, i, none⟩) (only_refl w (some p)) (.inl rfl) u) ?_
  cases hv : v.ownBlock with
  | none => exact .inl rfl
  | some k =>
    right
    have := (World.ownsRow.lt h k hv).1
    intro e
    cases e
    omega
abbrev fbox : Obj := .cells #[.int .i64 0, .int .i64 0] 38
set_option maxRecDepth 100000 in
set_option maxHeartbeats 2000000 in
set_option linter.unusedSimpArgs false in
theorem refFields (s : ByteArray) (w : World) (hM : MaxL w) (hs : s.size ≤ 1000000) :
    Calls Tryd.prog 40 #[.string s] w (FieldsPostR w s.data.toList) := by
  go_enter Tryd.func40, Tryd.ntmps40
  have hbox : Below w.heap.size w (w.alloc fbox) := (Below.refl _ _).alloc (Nat.le_refl _) _
  by_cases hl : 3000 < s.size
  · have hr := Lib.hid (fr_long (l := s.data.toList) (by rw [← sz_len]; exact hl))
    go_wp2_with fail
    refine (bare_made 4 _).mono ?_
    rintro e w1 ⟨rfl, hB1⟩
    have hBB : Below (w.heap.size + 1) (w.alloc fbox) w1 := by simpa using hB1
    have q0 := box_cell hBB 0 (v := .int .i64 0) rfl
    have q1 := box_cell hBB 1 (v := .int .i64 0) rfl
    have f0 := box_free hBB 0
    have f1 := box_free hBB 1
    have hB := below_box hBB
    clear hB1
    go_wp2
    obtain ⟨c0, c1⟩ := set_two (.int .i64 4) (.int .i64 (-1)) q0 q1
    (try simp only [Exit.inBlock, Exit.then])
    refine bodyPost_ret (by simp [results, Tryd.results40, go_sem, c0, c1]; try rfl) rfl ?_
    refine ⟨_, [], ?_, OwnG.nil _ _, by rw [hr.out]; rfl, ?_⟩
    · rw [hr.out]
    · go_grown
  · have hl' : ¬3000 < s.data.toList.length := by rw [← sz_len]; exact hl
    have hM0 := hM.later hbox
    have hsp := stringsSplit 10 s (w.alloc fbox) hM0 hs
    go_wp2_with fail
    refine hsp.mono ?_
    clear hsp
    rintro e w1 ⟨rfl, hw1⟩
    have hP : StrAt w1 (some ⟨w.heap.size + 1, 0, none⟩) (pieces 10 s) := by
      have := pieces_at (w.alloc fbox) (pieces 10 s)
      rw [World.size_alloc] at this
      rw [← hw1]; exact this
    have hBB1 : Below (w.heap.size + 1) (w.alloc fbox) w1 := by rw [← hw1]; exact (Below.refl _ _).alloc (by simp) _
    have hBB1' := Lib.hid hBB1
    have hM1 := hM0.later (by rw [World.size_alloc]; exact hBB1)
    have hsz0 : w.heap.size + 1 ≤ w1.heap.size := by have := hBB1.size; simpa using this
    have hl'' := Lib.hid hl'
    clear hw1 hBB1 hM0 hbox hl'
    have hps := pieces_le 10 s
    go_wp2
    go_loopw [4, 16] (fun v i wr => ∃ (k : Nat) (ps : List (ByteArray × ByteArray)), k ≤ (pieces 10 s).length ∧ i = .int .i64 k ∧ ps.length ≤ 40 ∧ Hid (OwnPar wr w1.heap.size v ps) ∧ Hid (Below w1.heap.size w1 wr) ∧ Hid (fieldsP (cutL 10 s.data.toList) 0 [] = fieldsP ((cutL 10 s.data.toList).drop k) k (pdatas ps))) (fun _ i _ => (pieces 10 s).length - (intOf i).toNat)
    case atStart => exact ⟨0, [], Nat.zero_le _, rfl, by decide, Lib.hid (OwnG.nil _ _), Lib.hid (Below.refl _ _), Lib.hid rfl⟩
    case round =>
      obtain ⟨k, ps, hk, rfl, hpl, hO, hB, hinv⟩ := hrel
      obtain ⟨a3, cap3, rfl, _, hcap3, hcm3, _⟩ := OwnG.shape encPar_len hO.out
      have hBB : Below (w.heap.size + 1) (w.alloc fbox) wr := hBB1'.out.then (by simp) hB.out
      have q0 := box_cell hBB 0 (v := .int .i64 0) rfl
      have q1 := box_cell hBB 1 (v := .int .i64 0) rfl
      have f0 := box_free hBB 0
      have f1 := box_free hBB 1
      have hBw := Lib.hid (below_box hBB)
      have hbs : w.heap.size < wr.heap.size := Nat.lt_of_lt_of_le (by simp) hBB.size
      clear hBB
      by_cases hlt : k < (pieces 10 s).length
      · obtain ⟨b, off, hbo, hc⟩ := (hP.later hB.out) k hlt
        cases hbo
        have hxs := pieces_sz 10 s _ (List.getElem_mem hlt)
        have hdrop : (cutL 10 s.data.toList).drop k = (pieces 10 s)[k].data.toList :: (cutL 10 s.data.toList).drop (k + 1) := by
          rw [← pieces_datas]
          rw [List.drop_eq_getElem_cons (by simpa [datas] using hlt)]
          simp [datas]
        rw [Nat.zero_add] at hc
        generalize hx : (pieces 10 s)[k] = x at hc hxs hdrop
        clear hx
        have hdrop' := Lib.hid hdrop
        clear hdrop
        obtain ⟨m, hm⟩ := hM1.later hB.out
        by_cases hx0 : 0 < x.size
        · have hm1 : x.size - 1 < x.size := by omega
          have hix : ((x.size : Int) - 1) = ((x.size - 1 : Nat) : Int) := by omega
          have hix2 : ((x.size : Int) - 1).toNat = x.size - 1 := by omega
          have hix3 : 0 ≤ (x.size : Int) - 1 := by omega
          have hq13 := u8eq13 (x[x.size - 1]'hm1)
          by_cases h13 : x[x.size - 1]'hm1 = 13
          · have hyl := chop_yes x hx0 h13
            rw [show (x[x.size - 1]'hm1 == 13) = true by rw [h13]; rfl] at hq13
            have hys : (x.extract 0 (x.size - 1)).size ≤ 1000000 := by
              have := chop_len x.data.toList
              rw [sz_len, hyl]
              rw [← sz_len] at this
              omega
            clear h13
            obtain ⟨y, hy⟩ : ∃ y, y = x.extract 0 (x.size - 1) := ⟨_, rfl⟩
            rw [← hy] at hyl hys
            by_cases h0 : chop x.data.toList = []
            · have hye : y.toList.isEmpty = true := by rw [Lib.toList_data, hyl, h0]; rfl
              have hn := Lib.hid (hinv.out.trans (by rw [hdrop'.out, fieldsP_skip h0]))
              rw [hy] at hye
              clear hyl h0 hm hy q0 q1 f0 f1
              go_wp2
              go_roundw
              case rel => exact ⟨k + 1, ps, by omega, by go_num, hpl, hO, hB, hn⟩
              case measure => simp [intOf]; omega
            · have hye : y.toList.isEmpty = false := by
                rw [Lib.toList_data, hyl]
                cases hq : chop x.data.toList with
                | nil => exact absurd hq h0
                | cons a r => rfl
              rw [hy] at hye
              have hyd := Lib.hid hy.symm
              clear hy
              have hidx := fun w' => Tryd.strings_IndexByte y 58 w'
              rw [show ((58 : Int).toNat).toUInt8 = 58 from rfl, hyl] at hidx
              cases hcol : hasColon (chop x.data.toList)
              · rw [idx_no 58 _ hcol] at hidx
                have hr := Lib.hid (fr_form hl''.out (hinv.out.trans (by rw [hdrop'.out, fieldsP_form h0 (.inl hcol)])))
                clear hyl h0 hm hcol
                go_wp2_with fail
                rw [hyd.out]
                refine (hidx _).mono ?_
                rintro e w3 ⟨rfl, rfl⟩
                have q0' := q0
                have q1' := q1
                have f0' := f0
                have f1' := f1
                have hB3 := hBw
                clear q0 q1 f0 f1
                go_wp2
                obtain ⟨c0, c1⟩ := set_two (.int .i64 3) (.int .i64 (k : Int)) q0' q1'
                (try simp only [Exit.inBlock, Exit.then])
                refine bodyPost_ret (by simp [results, Tryd.results40, go_sem, c0, c1]; try rfl) rfl ?_
                refine ⟨_, [], ?_, OwnG.nil _ _, by rw [hr.out]; rfl, ?_⟩
                · rw [hr.out]
                · have hb3 := hB3.out
                  go_grown
              · rw [idx_has 58 _ hcol] at hidx
                obtain ⟨q, hq⟩ : ∃ q : Nat, q = (befL 58 (chop x.data.toList)).length := ⟨_, rfl⟩
                have hqlt : q < y.size := by rw [hq, sz_len, hyl]; exact bef_lt 58 _ hcol
                rw [← hq] at hidx
                have hNl : (y.extract 0 q).data.toList = nameOf (chop x.data.toList) := by rw [Lib.extract_data, List.drop_zero, hyl, hq]; exact bef_take 58 _
                have hVl : (y.extract (q + 1) y.size).data.toList = (chop x.data.toList).drop ((nameOf (chop x.data.toList)).length + 1) := by rw [Lib.extract_to_end, hyl, hq]; rfl
                have hNs : (y.extract 0 q).size ≤ 1000000 := by rw [sz_len, hNl, nameOf_bef, ← hq]; omega
                have hVs : (y.extract (q + 1) y.size).size ≤ 1000000 := by rw [sz_len, Lib.extract_to_end, List.length_drop, ← sz_len]; omega
                have htok := fun w' => refToken (y.extract 0 q) w' (by unfold maxLen; omega)
                rw [hNl] at htok
                cases hw : tokW (nameOf (chop x.data.toList))
                · have hr := Lib.hid (fr_form hl''.out (hinv.out.trans (by rw [hdrop'.out, fieldsP_form h0 (.inr hw)])))
                  rw [hw] at htok
                  clear hyl h0 hm hcol hw hNl hVl hq
                  go_wp2_with fail
                  rw [hyd.out]
                  refine (hidx _).mono ?_
                  rintro e w3 ⟨rfl, rfl⟩
                  go_wp2_with fail
                  refine (htok _).mono ?_
                  rintro e w4 ⟨rfl, rfl⟩
                  have q0' := q0
                  have q1' := q1
                  have f0' := f0
                  have f1' := f1
                  have hB3 := hBw
                  clear q0 q1 f0 f1
                  go_wp2
                  obtain ⟨c0, c1⟩ := set_two (.int .i64 3) (.int .i64 (k : Int)) q0' q1'
                  (try simp only [Exit.inBlock, Exit.then])
                  refine bodyPost_ret (by simp [results, Tryd.results40, go_sem, c0, c1]; try rfl) rfl ?_
                  refine ⟨_, [], ?_, OwnG.nil _ _, by rw [hr.out]; rfl, ?_⟩
                  · rw [hr.out]
                  · have hb3 := hB3.out
                    go_grown
                · rw [hw] at htok
                  by_cases h40 : ps.length = 40
                  · have hr := Lib.hid (fr_limit hl''.out (hinv.out.trans (by rw [hdrop'.out, fieldsP_limit h0 hcol hw (by rw [pdatas_len]; exact h40)])))
                    have h40' : ((ps.length : Int) == 40) = true := by rw [beq_iff_eq]; omega
                    clear hyl h0 hm hcol hw hNl hVl h40 hq
                    go_wp2_with fail
                    rw [hyd.out]
                    refine (hidx _).mono ?_
                    rintro e w3 ⟨rfl, rfl⟩
                    go_wp2_with fail
                    refine (htok _).mono ?_
                    rintro e w4 ⟨rfl, rfl⟩
                    go_wp2_with fail
                    refine (bare_made 4 _).mono ?_
                    rintro e w5 ⟨rfl, hB2⟩
                    have q0' := (hB2.cell (p := ⟨w.heap.size, 0, none⟩) hbs).trans q0
                    have q1' := (hB2.cell (p := ⟨w.heap.size, 1, none⟩) hbs).trans q1
                    have f0' := (hB2.frozen (p := ⟨w.heap.size, 0, none⟩) hbs).trans f0
                    have f1' := (hB2.frozen (p := ⟨w.heap.size, 1, none⟩) hbs).trans f1
                    have hB3 := Lib.hid (hBw.out.then (Nat.le_refl _) hB2)
                    clear q0 q1 f0 f1
                    go_wp2
                    obtain ⟨c0, c1⟩ := set_two (.int .i64 4) (.int .i64 (-1)) q0' q1'
                    (try simp only [Exit.inBlock, Exit.then])
                    refine bodyPost_ret (by simp [results, Tryd.results40, go_sem, c0, c1]; try rfl) rfl ?_
                    refine ⟨_, [], ?_, OwnG.nil _ _, by rw [hr.out]; rfl, ?_⟩
                    · rw [hr.out]
                    · have hb3 := hB3.out
                      go_grown
                  · have h40' : ((ps.length : Int) == 40) = false := by rw [beq_eq_false_iff_ne]; omega
                    have hpl' : ps.length < 40 := by omega
                    have htr := fun w' => stringsTrim (y.extract (q + 1) y.size) ⟨#[32, 9]⟩ w' (by omega) (by decide) blanks_ascii
                    obtain ⟨Z, hZ⟩ : ∃ Z : ByteArray, Z = ⟨(Lib.trimS (y.extract (q + 1) y.size).data.toList [32, 9]).toArray⟩ := ⟨_, rfl⟩
                    rw [show (⟨#[32, 9]⟩ : ByteArray).data.toList = [32, 9] from rfl, ← hZ] at htr
                    have hn : Hid (fieldsP (cutL 10 s.data.toList) 0 [] = fieldsP ((cutL 10 s.data.toList).drop (k + 1)) (k + 1) (pdatas (ps ++ [(y.extract 0 q, Z)]))) :=
                      Lib.hid (hinv.out.trans (by
                        rw [hdrop'.out, fieldsP_go h0 hcol hw (by rw [pdatas_len]; exact h40), pdatas_snoc]
                        rw [hNl, hZ, mk_toList, hVl]
                        rfl))
                    have hl1 : ps.length + 1 ≤ maxLen := by unfold maxLen; omega
                    have hl2 : (ps.length + 1) * 32 ≤ 140737488355328 := by omega
                    have hbs1 := hB.out.size
                    have hwr1 : IntKind.i64.wrap ((q : Int) + 1) = (q : Int) + 1 := by simp [IntKind.wrap, IntKind.bits, IntKind.signed]; omega
                    have hi1 : (0 : Int) ≤ (q : Int) := by omega
                    have hi2 : (q : Int) ≤ (y.size : Int) := by omega
                    have hi3 : (0 : Int) ≤ (q : Int) + 1 := by omega
                    have hi4 : (q : Int) + 1 ≤ (y.size : Int) := by omega
                    have hi5 : ((q : Int) + 1).toNat = q + 1 := by omega
                    clear hyl h0 hm hcol hw hNl hVl hZ h40 q0 q1 f0 f1 hq
                    go_wp2_with fail
                    rw [hyd.out]
                    refine (hidx _).mono ?_
                    rintro e w3 ⟨rfl, rfl⟩
                    go_wp2_with fail
                    refine (htok _).mono ?_
                    rintro e w4 ⟨rfl, rfl⟩
                    go_wp2
                    have hX : ∀ W', Below w3.drew.heap.size w3.drew W' → OwnPar W' w1.heap.size (.slice a3 ps.length cap3) ps ∧ Below w1.heap.size w1 W' ∧ w1.heap.size ≤ W'.heap.size := fun W' h =>
                      ⟨(hO.out.later (Below.refl w3.heap.size w3).drew).later h, hB.out.drew.then (Nat.le_refl _) h, (hB.out.drew.then (Nat.le_refl _) h).size⟩
                    go_region_held3 (fun _ => True) (trivial) (first
                      | (go_at_call 98; refine (htr _).mono ?_; rintro e w5 ⟨rfl, hB5⟩; obtain ⟨hO5, hB5', hbs5⟩ := hX w5 hB5)
                      | ((refine step_append_one infoPar Tryd.underlying46 (by rfl) (by decide) encPar_len (by rfl) _ _ (by rfl) w5 w1.heap.size _ ps (by rfl) hO5 (y.extract 0 q, Z) (encPar_one _) _ (by rfl) _ (by rfl) (by rfl) hl1 hl2 hbs5 ?_; intro v6 w6 hO6 hG6)))
                    all_goals
                      go_wp2
                      go_roundw
                      case rel => exact ⟨k + 1, ps ++ [(y.extract 0 q, Z)], by omega, by go_num, by simp; omega, Lib.hid hO6, Lib.hid (below_append hB5' hO5 hG6 hB5'.size), hn⟩
                      case measure => simp [intOf]; omega
          · have hyl0 := chop_no x (fun _ => h13)
            rw [show (x[x.size - 1]'hm1 == 13) = false by simpa using h13] at hq13
            obtain ⟨D, hD⟩ : ∃ D, D = chop x.data.toList := ⟨_, rfl⟩
            have hcx := Lib.hid hD.symm
            have hyl : x.data.toList = D := by rw [hD]; exact hyl0
            have h0 : D ≠ [] := by rw [← hyl]; intro e; rw [sz_len, e] at hx0; exact absurd hx0 (by decide)
            have hye : x.toList.isEmpty = false := by
              rw [Lib.toList_data]
              cases hq : x.data.toList with
              | nil => rw [sz_len, hq] at hx0; exact absurd hx0 (by decide)
              | cons a r => rfl
            clear h13 hyl0 hD
            have hidx := fun w' => Tryd.strings_IndexByte x 58 w'
            rw [show ((58 : Int).toNat).toUInt8 = 58 from rfl, hyl] at hidx
            cases hcol : hasColon (D)
            · rw [idx_no 58 _ hcol] at hidx
              have hr := Lib.hid (fr_form hl''.out (hinv.out.trans (by rw [hdrop'.out, fieldsP_form (by rw [hcx.out]; exact h0) (.inl (by rw [hcx.out]; exact hcol))])))
              clear hyl h0 hm hcol
              go_wp2_with fail
              refine (hidx _).mono ?_
              rintro e w3 ⟨rfl, rfl⟩
              have q0' := q0
              have q1' := q1
              have f0' := f0
              have f1' := f1
              have hB3 := hBw
              clear q0 q1 f0 f1
              go_wp2
              obtain ⟨c0, c1⟩ := set_two (.int .i64 3) (.int .i64 (k : Int)) q0' q1'
              (try simp only [Exit.inBlock, Exit.then])
              refine bodyPost_ret (by simp [results, Tryd.results40, go_sem, c0, c1]; try rfl) rfl ?_
              refine ⟨_, [], ?_, OwnG.nil _ _, by rw [hr.out]; rfl, ?_⟩
              · rw [hr.out]
              · have hb3 := hB3.out
                go_grown
            · rw [idx_has 58 _ hcol] at hidx
              obtain ⟨q, hq⟩ : ∃ q : Nat, q = (befL 58 (D)).length := ⟨_, rfl⟩
              have hqlt : q < x.size := by rw [hq, sz_len, hyl]; exact bef_lt 58 _ hcol
              rw [← hq] at hidx
              have hNl : (x.extract 0 q).data.toList = nameOf (D) := by rw [Lib.extract_data, List.drop_zero, hyl, hq]; exact bef_take 58 _
              have hVl : (x.extract (q + 1) x.size).data.toList = (D).drop ((nameOf (D)).length + 1) := by rw [Lib.extract_to_end, hyl, hq]; rfl
              have hNs : (x.extract 0 q).size ≤ 1000000 := by rw [sz_len, hNl, nameOf_bef, ← hq]; omega
              have hVs : (x.extract (q + 1) x.size).size ≤ 1000000 := by rw [sz_len, Lib.extract_to_end, List.length_drop, ← sz_len]; omega
              have htok := fun w' => refToken (x.extract 0 q) w' (by unfold maxLen; omega)
              rw [hNl] at htok
              cases hw : tokW (nameOf (D))
              · have hr := Lib.hid (fr_form hl''.out (hinv.out.trans (by rw [hdrop'.out, fieldsP_form (by rw [hcx.out]; exact h0) (.inr (by rw [hcx.out]; exact hw))])))
                rw [hw] at htok
                clear hyl h0 hm hcol hw hNl hVl hq
                go_wp2_with fail
                refine (hidx _).mono ?_
                rintro e w3 ⟨rfl, rfl⟩
                go_wp2_with fail
                refine (htok _).mono ?_
                rintro e w4 ⟨rfl, rfl⟩
                have q0' := q0
                have q1' := q1
                have f0' := f0
                have f1' := f1
                have hB3 := hBw
                clear q0 q1 f0 f1
                go_wp2
                obtain ⟨c0, c1⟩ := set_two (.int .i64 3) (.int .i64 (k : Int)) q0' q1'
                (try simp only [Exit.inBlock, Exit.then])
                refine bodyPost_ret (by simp [results, Tryd.results40, go_sem, c0, c1]; try rfl) rfl ?_
                refine ⟨_, [], ?_, OwnG.nil _ _, by rw [hr.out]; rfl, ?_⟩
                · rw [hr.out]
                · have hb3 := hB3.out
                  go_grown
              · rw [hw] at htok
                by_cases h40 : ps.length = 40
                · have hr := Lib.hid (fr_limit hl''.out (hinv.out.trans (by rw [hdrop'.out, fieldsP_limit (by rw [hcx.out]; exact h0) (by rw [hcx.out]; exact hcol) (by rw [hcx.out]; exact hw) (by rw [pdatas_len]; exact h40)])))
                  have h40' : ((ps.length : Int) == 40) = true := by rw [beq_iff_eq]; omega
                  clear hyl h0 hm hcol hw hNl hVl h40 hq
                  go_wp2_with fail
                  refine (hidx _).mono ?_
                  rintro e w3 ⟨rfl, rfl⟩
                  go_wp2_with fail
                  refine (htok _).mono ?_
                  rintro e w4 ⟨rfl, rfl⟩
                  go_wp2_with fail
                  refine (bare_made 4 _).mono ?_
                  rintro e w5 ⟨rfl, hB2⟩
                  have q0' := (hB2.cell (p := ⟨w.heap.size, 0, none⟩) hbs).trans q0
                  have q1' := (hB2.cell (p := ⟨w.heap.size, 1, none⟩) hbs).trans q1
                  have f0' := (hB2.frozen (p := ⟨w.heap.size, 0, none⟩) hbs).trans f0
                  have f1' := (hB2.frozen (p := ⟨w.heap.size, 1, none⟩) hbs).trans f1
                  have hB3 := Lib.hid (hBw.out.then (Nat.le_refl _) hB2)
                  clear q0 q1 f0 f1
                  go_wp2
                  obtain ⟨c0, c1⟩ := set_two (.int .i64 4) (.int .i64 (-1)) q0' q1'
                  (try simp only [Exit.inBlock, Exit.then])
                  refine bodyPost_ret (by simp [results, Tryd.results40, go_sem, c0, c1]; try rfl) rfl ?_
                  refine ⟨_, [], ?_, OwnG.nil _ _, by rw [hr.out]; rfl, ?_⟩
                  · rw [hr.out]
                  · have hb3 := hB3.out
                    go_grown
                · have h40' : ((ps.length : Int) == 40) = false := by rw [beq_eq_false_iff_ne]; omega
                  have hpl' : ps.length < 40 := by omega
                  have htr := fun w' => stringsTrim (x.extract (q + 1) x.size) ⟨#[32, 9]⟩ w' (by omega) (by decide) blanks_ascii
                  obtain ⟨Z, hZ⟩ : ∃ Z : ByteArray, Z = ⟨(Lib.trimS (x.extract (q + 1) x.size).data.toList [32, 9]).toArray⟩ := ⟨_, rfl⟩
                  rw [show (⟨#[32, 9]⟩ : ByteArray).data.toList = [32, 9] from rfl, ← hZ] at htr
                  have hn : Hid (fieldsP (cutL 10 s.data.toList) 0 [] = fieldsP ((cutL 10 s.data.toList).drop (k + 1)) (k + 1) (pdatas (ps ++ [(x.extract 0 q, Z)]))) :=
                    Lib.hid (hinv.out.trans (by
                      rw [hdrop'.out, fieldsP_go (by rw [hcx.out]; exact h0) (by rw [hcx.out]; exact hcol) (by rw [hcx.out]; exact hw) (by rw [pdatas_len]; exact h40), pdatas_snoc, hcx.out]
                      rw [hNl, hZ, mk_toList, hVl]
                      rfl))
                  have hl1 : ps.length + 1 ≤ maxLen := by unfold maxLen; omega
                  have hl2 : (ps.length + 1) * 32 ≤ 140737488355328 := by omega
                  have hbs1 := hB.out.size
                  have hwr1 : IntKind.i64.wrap ((q : Int) + 1) = (q : Int) + 1 := by simp [IntKind.wrap, IntKind.bits, IntKind.signed]; omega
                  have hi1 : (0 : Int) ≤ (q : Int) := by omega
                  have hi2 : (q : Int) ≤ (x.size : Int) := by omega
                  have hi3 : (0 : Int) ≤ (q : Int) + 1 := by omega
                  have hi4 : (q : Int) + 1 ≤ (x.size : Int) := by omega
                  have hi5 : ((q : Int) + 1).toNat = q + 1 := by omega
                  clear hyl h0 hm hcol hw hNl hVl hZ h40 q0 q1 f0 f1 hq
                  go_wp2_with fail
                  refine (hidx _).mono ?_
                  rintro e w3 ⟨rfl, rfl⟩
                  go_wp2_with fail
                  refine (htok _).mono ?_
                  rintro e w4 ⟨rfl, rfl⟩
                  go_wp2
                  have hX : ∀ W', Below w3.drew.heap.size w3.drew W' → OwnPar W' w1.heap.size (.slice a3 ps.length cap3) ps ∧ Below w1.heap.size w1 W' ∧ w1.heap.size ≤ W'.heap.size := fun W' h =>
                    ⟨(hO.out.later (Below.refl w3.heap.size w3).drew).later h, hB.out.drew.then (Nat.le_refl _) h, (hB.out.drew.then (Nat.le_refl _) h).size⟩
                  go_region_held3 (fun _ => True) (trivial) (first
                    | (go_at_call 98; refine (htr _).mono ?_; rintro e w5 ⟨rfl, hB5⟩; obtain ⟨hO5, hB5', hbs5⟩ := hX w5 hB5)
                    | ((refine step_append_one infoPar Tryd.underlying46 (by rfl) (by decide) encPar_len (by rfl) _ _ (by rfl) w5 w1.heap.size _ ps (by rfl) hO5 (x.extract 0 q, Z) (encPar_one _) _ (by rfl) _ (by rfl) (by rfl) hl1 hl2 hbs5 ?_; intro v6 w6 hO6 hG6)))
                  all_goals
                    go_wp2
                    go_roundw
                    case rel => exact ⟨k + 1, ps ++ [(x.extract 0 q, Z)], by omega, by go_num, by simp; omega, Lib.hid hO6, Lib.hid (below_append hB5' hO5 hG6 hB5'.size), hn⟩
                    case measure => simp [intOf]; omega
        · have h0 : chop x.data.toList = [] := by
            rw [← chop_no x (fun h => absurd h hx0)]
            exact List.length_eq_zero_iff.1 (by rw [← sz_len]; omega)
          have hye : x.toList.isEmpty = true := by
            rw [Lib.toList_data, List.isEmpty_iff]
            exact List.length_eq_zero_iff.1 (by rw [← sz_len]; omega)
          have hn := Lib.hid (hinv.out.trans (by rw [hdrop'.out, fieldsP_skip h0]))
          clear h0 hm q0 q1 f0 f1
          go_wp2
          go_roundw
          case rel => exact ⟨k + 1, ps, by omega, by go_num, hpl, hO, hB, hn⟩
          case measure => simp [intOf]; omega
      · obtain rfl : (pieces 10 s).length = k := by omega
        have hr := Lib.hid (fr_ok hl''.out (hinv.out.trans (by rw [List.drop_eq_nil_of_le (by rw [← pieces_datas]; simp [datas])]; rfl)))
        go_wp2_with fail
        refine (good_is _).mono ?_
        rintro e w2 ⟨rfl, hB2⟩
        have q0' := (hB2.cell (p := ⟨w.heap.size, 0, none⟩) hbs).trans q0
        have q1' := (hB2.cell (p := ⟨w.heap.size, 1, none⟩) hbs).trans q1
        have f0' := (hB2.frozen (p := ⟨w.heap.size, 0, none⟩) hbs).trans f0
        have f1' := (hB2.frozen (p := ⟨w.heap.size, 1, none⟩) hbs).trans f1
        have hB3 := Lib.hid (hBw.out.then (Nat.le_refl _) hB2)
        have hO2 := Lib.hid (hO.out.later hB2)
        clear q0 q1 f0 f1
        go_wp2
        obtain ⟨c0, c1⟩ := set_two (.int .i64 0) (.int .i64 (-1)) q0' q1'
        (try simp only [Exit.inBlock, Exit.then])
        refine bodyPost_ret (by simp [results, Tryd.results40, go_sem, c0, c1]; try rfl) rfl ?_
        refine ⟨.slice a3 ps.length cap3, ps, ?_, ?_, by rw [hr.out], ?_⟩
        · rw [hr.out]
        · exact ((hO2.out.put (p := w.heap.size) (by omega) 0 _).put (p := w.heap.size) (by omega) 1 _).base (by omega)
        · have hb3 := hB3.out
          go_grown
end Go.Proofs.YtmpgamnpmgedkaaDoor
