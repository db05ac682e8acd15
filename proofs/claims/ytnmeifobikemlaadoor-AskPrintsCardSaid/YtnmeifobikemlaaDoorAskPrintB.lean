/- ask.Print: challenges as a header. -/
import Derived.Test.YtnmeifobikemlaaDoorAskPrint
import Derived.Test.YtnmeifobikemlaaDoorJoin
namespace Go.Proofs.YtnmeifobikemlaaDoor
open Go.RowKit

theorem askIdx_bad (cs : List Chal) (k : Nat) (hk : k < cs.length) (h : ∀ c ∈ cs.take k, chalOk c = true) (hb : chalOk cs[k] = false) : cs.findIdx? (fun c => !chalOk c) = some k :=
  (List.findIdx?_eq_some_iff_getElem (i := k)).2 ⟨hk, by simp [hb], fun j hj => by simp [h cs[j] (by rw [List.mem_take_iff_getElem]; exact ⟨j, by omega, rfl⟩)]⟩
theorem chalL_len {c : Chal} (h : Light c) : (chalL c).length ≤ 50000 := by
  have h1 := light_head h
  have h2 := parL_len c.params (light_each h) c.params.length
  have h3 := h.few
  rw [Lib.size_eq, Lib.size_eq] at h1
  unfold chalL headL
  split <;> simp only [List.length_append, List.length_cons, List.length_nil] <;> omega
theorem print_len {cs : List Chal} (hL : ∀ c ∈ cs, Light c) (hl : cs.length ≤ 10) : (Lib.join (datas (cs.map chalB)) [44, 32]).length ≤ 140737488355328 := by
  have h := commas_len 50000 (cs.map chalB) (fun s hs => by
    obtain ⟨c, hc, rfl⟩ := List.mem_map.1 hs
    have := chalL_len (hL c hc)
    rw [Lib.size_eq]
    exact this)
  rw [List.length_map] at h
  refine Nat.le_trans h (Nat.le_trans (Nat.mul_le_mul_right _ hl) (by decide))

set_option maxRecDepth 100000 in
set_option maxHeartbeats 8000000 in
set_option linter.unusedSimpArgs false in
theorem askPrint (a : Option Addr) (cap : Nat) (cs : List Chal) (w : World) (hC : ChalAt w a cs) (hO : ∀ c ∈ cs, c.Ok w) (hL : ∀ c ∈ cs, Light c) (hl : cs.length ≤ 10) :
    Calls Tryd.prog 43 #[.slice a cs.length cap] w fun e w' => (∃ x, e = .returned (askRes cs .nilIface (fun _ => x)) ∧ ∀ i, cs.findIdx? (fun c => !chalOk c) = some i → ErrIs w' x 3 i) ∧ Below w.heap.size w w' := by
  go_enter Tryd.func43, Tryd.ntmps43
  obtain ⟨i0, hi, hz0, hz1, hz2⟩ := info_parts infoString
  go_wp2
  go_loopw [4, 14] (fun o i wr => ∃ k : Nat, k ≤ cs.length ∧ i = .int .i64 k ∧ OwnStr wr w.heap.size o ((cs.take k).map chalB) ∧ Below w.heap.size w wr ∧ Hid (∀ c ∈ cs.take k, chalOk c = true)) (fun _ i _ => cs.length - (intOf i).toNat)
  case atStart => exact ⟨0, Nat.zero_le _, rfl, OwnStr.nil _ _, Below.refl _ _, Lib.hid (by simp)⟩
  case round =>
    obtain ⟨k, hk, rfl, hOwn, hB, ha⟩ := hrel
    have hbs := hB.size
    by_cases hlt : k < cs.length
    · obtain ⟨b, off, rfl, h1, h2, h3⟩ := (hC.later hB) k hlt
      have hLk := hL _ (List.getElem_mem hlt)
      have hhd := light_head hLk
      have hfew := hLk.few
      have hOk := hO _ (List.getElem_mem hlt)
      have hpar := hOk.at_
      have heach := light_each hLk
      obtain ⟨A, hA⟩ : ∃ A, A = cs[k].addr := ⟨_, rfl⟩
      rw [← hA] at h3 hpar
      clear hA
      cases hte : (!cs[k].token.toList.isEmpty)
      all_goals go_wp2
      all_goals
        go_loopw [7, 32] (fun o i w2 => ∃ (j : Nat) (s : ByteArray), j ≤ cs[k].params.length ∧ i = .int .i64 j ∧ o = .string s ∧ s.size ≤ 700 + j * 2000 ∧ Hid (s.data.toList = headL cs[k] ++ parL cs[k].params j) ∧ Below wr.heap.size wr w2 ∧ Hid (∀ p ∈ cs[k].params.take j, valOk p.2 = true)) (fun _ i _ => cs[k].params.length - (intOf i).toNat)
        case atStart =>
          refine ⟨0, _, Nat.zero_le _, rfl, rfl, ?_, Lib.hid ?_, (Below.refl _ _).alloc (Nat.le_refl _) _, Lib.hid (by simp)⟩
          · have e2 : (⟨#[32]⟩ : ByteArray).size = 1 := rfl
            try simp only [ByteArray.size_append, e2]
            omega
          · unfold headL
            rw [hte]
            simp [ByteArray.data_append, parL]
        case round =>
          obtain ⟨j, s1, hj, rfl, rfl, hsz1, hs1, hBo, ha1⟩ := hrel
          have hB1 := hB.then (Nat.le_refl _) hBo
          have hbs1 := hB1.size
          by_cases hlt1 : j < cs[k].params.length
          · obtain ⟨b1, off1, rfl, g1, g2⟩ := (hpar.later hB1) j hlt1
            have hp := heach _ (List.getElem_mem hlt1)
            have rv := fun w' => tokenValue cs[k].params[j].2 w' (by omega)
            cases hv : valOk cs[k].params[j].2
            · have rv1 : ∀ w', Calls Tryd.prog 19 #[.string cs[k].params[j].2] w' fun e w2 => e = .returned (.tuple #[.string ⟨#[]⟩, .iface 22 (.int .i64 3)]) ∧ Below w'.heap.size w' w2 := fun w' => by
                have := rv w'; rw [valueRes_bad hv] at this; exact this
              clear rv
              have hv' := Lib.hid hv
              clear hv
              go_wp2_with fail
              refine (rv1 _).mono ?_
              rintro e w3 ⟨rfl, hB3⟩
              clear rv1
              have hB4 := (hB1.alloc hbs1 (Obj.cells #[Value.string cs[k].params[j].1, Value.string cs[k].params[j].2] 90)).then (Nat.le_refl _) hB3
              have hbs4 := hB4.size
              go_wp2
              go_ret2
              refine ⟨⟨.iface 93 (.pointer (some ⟨w3.heap.size, 0, none⟩)), ?_, ?_⟩, ?_⟩
              · rw [askRes_bad cs _ _ k hlt ha.out (chalOk_bad _ j hlt1 hv'.out)]; rfl
              · intro i hi'
                rw [askIdx_bad cs k hlt ha.out (chalOk_bad _ j hlt1 hv'.out)] at hi'
                obtain rfl := Option.some.inj hi'
                exact .inr (.inr ⟨_, rfl, by rw [World.cell?_alloc_mark]; rfl, by rw [World.cell?_alloc_mark]; rfl⟩)
              · go_grown
            · have rv1 : ∀ w', Calls Tryd.prog 19 #[.string cs[k].params[j].2] w' fun e w2 => e = .returned (.tuple #[.string (valV cs[k].params[j].2), .nilIface]) ∧ Below w'.heap.size w' w2 := fun w' => by
                have := rv w'; rw [valueRes_ok hv] at this; exact this
              clear rv
              have hv' := Lib.hid hv
              clear hv
              have hvs := valV_size cs[k].params[j].2
              go_wp2_with fail
              refine (rv1 _).mono ?_
              rintro e w3 ⟨rfl, hB3⟩
              clear rv1
              have g1' := box_cell (c := #[Value.string cs[k].params[j].1, Value.string cs[k].params[j].2]) (by simpa using hB3) 0 rfl
              have hBo2 := (hBo.alloc hBo.size (Obj.cells #[Value.string cs[k].params[j].1, Value.string cs[k].params[j].2] 90)).then (Nat.le_refl _) hB3
              by_cases j0 : 0 < j
              all_goals
                go_wp2
                go_roundw
                case rel =>
                  refine ⟨j + 1, _, by omega, by go_num, rfl, ?_, Lib.hid ?_, hBo2, Lib.hid ?_⟩
                  · have e1 : (⟨#[44]⟩ : ByteArray).size = 1 := rfl
                    have e2 : (⟨#[32]⟩ : ByteArray).size = 1 := rfl
                    have e3 : (⟨#[61]⟩ : ByteArray).size = 1 := rfl
                    simp only [ByteArray.size_append, e1, e2, e3]
                    omega
                  · rw [parL_succ _ j hlt1]
                    unfold piece
                    first
                      | (rw [if_neg (by omega)]; simp [ByteArray.data_append, hs1.out]; done)
                      | (rw [if_pos (by omega)]; simp [ByteArray.data_append, hs1.out])
                  · intro p hp
                    rw [List.take_succ_eq_append_getElem hlt1] at hp
                    rcases List.mem_append.1 hp with hp | hp
                    · exact ha1.out p hp
                    · simp at hp; subst hp; exact hv'.out
                case measure => simp [intOf]; omega
          · obtain rfl : j = cs[k].params.length := by omega
            have hlen : ((cs.take k).map chalB).length ≤ 10 := by simp; omega
            obtain ⟨T, hT⟩ : ∃ T, Hid (T = (cs.take k).map chalB) := ⟨_, Lib.hid rfl⟩
            have hO2 := hOwn.later hBo
            rw [← hT.out] at hO2 hlen
            go_wp2_with (at_builtin; refine wpList_append_own _ rfl _ _ 92 rfl w.heap.size 9 i0 (.string ⟨#[]⟩) 1 16 Tryd.underlying92 hi hz0 hz1 hz2 rfl (by decide) _ _ _ rfl (hO2.alloc _) ⟨wr.heap.size, 0, none⟩ 1 1 [.string s1] rfl rfl ?c1 ?c2 ?c3 ?c4 ?c5 ?_)
            case c1 => exact cell_one_new _ _ _
            case c2 => exact one_cell_string _
            case c3 => unfold maxLen; omega
            case c4 => omega
            case c5 => simp; omega
            intro v' w3 hown hgrow hnil
            go_wp2
            go_roundw
            case rel =>
              refine ⟨k + 1, by omega, by go_num, ?_, below_append hB1 hO2 hgrow hB1.size, Lib.hid ?_⟩
              · rw [List.take_succ_eq_append_getElem hlt, List.map_append]
                have e1 := ba_of hs1.out
                have h9 := OwnStr.snoc hown
                rw [e1, hT.out] at h9
                exact h9
              · intro c hc
                rw [List.take_succ_eq_append_getElem hlt] at hc
                rcases List.mem_append.1 hc with hc | hc
                · exact ha.out c hc
                · simp at hc; subst hc
                  exact List.all_eq_true.2 (by simpa using ha1.out)
            case measure => simp [intOf]; omega
    · obtain rfl : k = cs.length := by omega
      rw [List.take_length] at hOwn
      obtain ⟨a', cap', rfl, hS, hc, hm, _⟩ := hOwn.shape
      have hj := stringsJoin a' cap' (cs.map chalB) ⟨#[44, 32]⟩ wr hS hc (by simp; omega) (print_len hL hl)
      rw [List.length_map] at hj
      go_wp2_with fail
      refine hj.mono ?_
      rintro e w2 ⟨rfl, hB2⟩
      go_wp2
      go_ret2
      have hall : ∀ c ∈ cs, chalOk c = true := by have := ha.out; rwa [List.take_length] at this
      refine ⟨⟨.nilIface, ?_, fun i hi => ?_⟩, hB.then (Nat.le_refl _) hB2⟩
      · rw [askRes_good cs _ _ hall]; rfl
      · rw [List.findIdx?_eq_none_iff.2 (fun c hc => by simp [hall c hc])] at hi
        cases hi
end Go.Proofs.YtnmeifobikemlaaDoor
