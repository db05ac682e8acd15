/- The reference's cursor: Go, Blanks, Mark, Word. -/
import Derived.Test.YtdpmhkineanloaaDoorCursor
import Derived.Test.YtdpmhkineanloaaDoorTrim
import Derived.Deep.RegionHeld3
import Derived.Deep.RegionWith
namespace Go.Proofs.YtdpmhkineanloaaDoor
open Go.RowKit

abbrev tR : TypeId := 35
set_option maxRecDepth 100000 in
theorem refGo (w : World) (p : Nat) (s : ByteArray) (k : Nat) (n : Int) (h : CurAt tR w p s k) (hs : s.size ≤ 1099511627776) :
    Calls Tryd.prog 23 #[.pointer (some ⟨p, 0, none⟩), .int .i64 n] w (CurPost tR w p s (.tuple #[]) (clampAt s n)) := by
  have c0 := h.c0
  have c1 := h.c1
  have f1 := h.f1
  have hlt := h.lt
  have hp : CurAt tR ((w.setCell ⟨p, 1, none⟩ (.int .i64 n)).setCell ⟨p, 1, none⟩ (.int .i64 (clampAt s n : Nat))) p s (clampAt s n) := Blk.set (Blk.set h 1 _) 1 _
  have hp1 : CurAt tR (w.setCell ⟨p, 1, none⟩ (.int .i64 (clampAt s n : Nat))) p s (clampAt s n) := Blk.set h 1 _
  have hG : w.grownBy ((w.setCell ⟨p, 1, none⟩ (.int .i64 n)).setCell ⟨p, 1, none⟩ (.int .i64 (clampAt s n : Nat))) (some p) := only_setCell (only_setCell (only_refl _ _) (.inl rfl) _) (.inl rfl) _
  have hG1 : w.grownBy (w.setCell ⟨p, 1, none⟩ (.int .i64 (clampAt s n : Nat))) (some p) := only_setCell (only_refl _ _) (.inl rfl) _
  by_cases h1 : n < 0
  · have e : ((clampAt s n : Nat) : Int) = 0 := by unfold clampAt; omega
    rw [e] at hp hG
    clear hp1 hG1 e
    have hp' := Lib.hid hp
    have hG' := Lib.hid hG
    clear hp hG
    have h2 : ¬ (s.size : Int) < n := by omega
    go_enter Tryd.func23, Tryd.ntmps23
    go_wp2
    go_end0
    exact ⟨rfl, hp'.out, hG'.out⟩
  · by_cases h2 : (s.size : Int) < n
    · have e : ((clampAt s n : Nat) : Int) = (s.size : Int) := by unfold clampAt; omega
      rw [e] at hp hG
      clear hp1 hG1 e
      have hp' := Lib.hid hp
      have hG' := Lib.hid hG
      clear hp hG
      go_enter Tryd.func23, Tryd.ntmps23
      go_wp2
      go_end0
      exact ⟨rfl, hp'.out, hG'.out⟩
    · have e : ((clampAt s n : Nat) : Int) = n := by unfold clampAt; omega
      rw [e] at hp1 hG1
      clear hp hG e
      have hp' := Lib.hid hp1
      have hG' := Lib.hid hG1
      clear hp1 hG1
      go_enter Tryd.func23, Tryd.ntmps23
      go_wp2
      go_end0
      exact ⟨rfl, hp'.out, hG'.out⟩

theorem blank_cut (c : UInt8) : ([32, 9] : List UInt8).contains c = isBl c := by
  have h : ∀ n : Fin 256, ([32, 9] : List UInt8).contains (UInt8.ofNat n.val) = isBl (UInt8.ofNat n.val) := by decide +kernel
  simpa using h ⟨c.toNat, c.toNat_lt⟩
theorem trim_blanks (s : ByteArray) (k : Nat) : (Lib.trimLeftS (s.extract k s.size).data.toList [32, 9]).length + blanksN s k = s.size - k := by
  unfold Lib.trimLeftS blanksN spanAt
  rw [show (fun c : UInt8 => ([32, 9] : List UInt8).contains c) = isBl from funext blank_cut, Lib.extract_to_end]
  have := congrArg List.length (List.takeWhile_append_dropWhile (p := isBl) (l := s.data.toList.drop k))
  rw [List.length_append, List.length_drop, ← sz_len] at this
  omega
theorem mkC {w : World} {T : TypeId} {p : Nat} {s : ByteArray} {k : Nat} (h : CurAt T w p s k) (w' : World) (hB : Below w.heap.size w w') : Below w.heap.size w w' ∧ w'.cell? ⟨p, 0, none⟩ = some (.string s) ∧ w'.cell? ⟨p, 1, none⟩ = some (.int .i64 (k : Int)) :=
  ⟨hB, (h.later hB).c0, (h.later hB).c1⟩
set_option maxRecDepth 100000 in
theorem refBlanks (w : World) (p : Nat) (s : ByteArray) (k : Nat) (h : CurAt tR w p s k) (hs : s.size ≤ 1099511627776) (hk : k ≤ s.size) :
    Calls Tryd.prog 25 #[.pointer (some ⟨p, 0, none⟩)] w (CurPost tR w p s (.bool (decide (0 < blanksN s k))) (k + blanksN s k)) := by
  have c0 := h.c0
  have c1 := h.c1
  have ht := fun w' => stringsTrimLeft (s.extract k s.size) ⟨#[32, 9]⟩ w' (by decide) (Go.Proofs.ascii_of_all (by decide))
  obtain ⟨T, hT⟩ : ∃ T : ByteArray, T = ⟨(Lib.trimLeftS (s.extract k s.size).data.toList (⟨#[32, 9]⟩ : ByteArray).data.toList).toArray⟩ := ⟨_, rfl⟩
  rw [← hT] at ht
  have hTs : T.size + blanksN s k = s.size - k := by rw [hT, mk_len]; exact trim_blanks s k
  clear hT
  have hsub : ((s.size - k : Nat) : Int) - (T.size : Int) = (blanksN s k : Int) := by omega
  have hle := blanksN_le s k hk
  have hkk : (k : Int) ≤ (s.size : Int) := by omega
  have hTs' := Lib.hid hTs
  clear hTs
  have H := Lib.hid h
  have hmk := fun w' hB => mkC h w' hB
  clear h
  go_enter Tryd.func25, Tryd.ntmps25
  go_wp2_with fail
  clear c0 c1
  go_region_held3 (fun w' => Below w.heap.size w w' ∧ w'.cell? ⟨p, 0, none⟩ = some (.string s) ∧ w'.cell? ⟨p, 1, none⟩ = some (.int .i64 (k : Int)))
    (first | (exact hmk _ (Below.refl _ _).drew) | (go_split_ands; exact hmk _ ((by assumption : Below w.heap.size w _).then (Nat.le_refl _) (by assumption))))
    (first | (go_at_call 86; go_split_ands; refine (ht _).mono ?_; rintro e w2 ⟨rfl, hB2⟩))
  go_split_ands
  have hBw : Below w.heap.size w w2 := by assumption
  have hC2 := H.out.later hBw
  have f1 := hC2.f1
  have hG := Lib.hid (only_of_below hBw (some p))
  have hC2' := Lib.hid hC2
  clear hC2
  go_wp2
  go_ret
  exact ⟨ret_bool (by simp), hC2'.out.put (k + blanksN s k), only_setCell hG.out (.inl rfl) _⟩
/-- what Mark leaves -/
def MarkPost (T : TypeId) (w : World) (p : Nat) (s : ByteArray) (k : Nat) (c : UInt8) (e : Ending) (w' : World) : Prop :=
  if hk : k < s.size then (if s[k] = c then CurPost T w p s (.bool true) (k + 1) e w' else CurPost T w p s (.bool false) k e w') else CurPost T w p s (.bool false) k e w'
set_option maxRecDepth 100000 in
theorem refMark (w : World) (p : Nat) (s : ByteArray) (k : Nat) (c : UInt8) (h : CurAt tR w p s k) (hs : s.size ≤ 1099511627776) (hk : k ≤ s.size) :
    Calls Tryd.prog 31 #[.pointer (some ⟨p, 0, none⟩), .int .u8 c.toNat] w (MarkPost tR w p s k c) := by
  have c0 := h.c0
  have c1 := h.c1
  have hcc : chr (c.toNat : Int) = c := by unfold chr; have := c.toNat_lt; rw [show ((c.toNat : Int) % 256).toNat = c.toNat by omega]; simp
  have hval : Lib.hasPrefix (s.extract k s.size).data.toList (⟨#[chr (c.toNat : Int)]⟩ : ByteArray).data.toList = (s.data.toList[k]? == some c) := by
    rw [Lib.extract_to_end, hcc]
    by_cases hlt : k < s.size
    · have hl : k < s.data.toList.length := by rw [← sz_len]; exact hlt
      rw [List.drop_eq_getElem_cons hl, List.getElem?_eq_getElem hl, Bool.eq_iff_iff]
      simp [Lib.hasPrefix, List.isPrefixOf]
      exact eq_comm
    · rw [List.drop_eq_nil_of_le (by rw [← sz_len]; omega), List.getElem?_eq_none (by rw [← sz_len]; omega)]
      rfl
  have hpx : ∀ w' : World, Calls Tryd.prog 91 #[.string (s.extract k s.size), .string ⟨#[chr (c.toNat : Int)]⟩] w' fun e w'' => e = .returned (.bool (s.data.toList[k]? == some c)) ∧ w' = w'' := by
    intro w'
    refine (Tryd.strings_HasPrefix (s.extract k s.size) ⟨#[chr (c.toNat : Int)]⟩ w').mono ?_
    rintro e w'' ⟨rfl, rfl⟩
    exact ⟨by rw [hval], rfl⟩
  clear hcc hval
  have hkk : (k : Int) ≤ (s.size : Int) := by omega
  have hwr : IntKind.i64.wrap (c.toNat : Int) = (c.toNat : Int) := IntWalk.i64_in _ (by have := c.toNat_lt; omega)
  have H := Lib.hid h
  have hmk := fun w' hB => mkC h w' hB
  have hif : Hid (∀ (hlt : k < s.size), s[k] = c ↔ (s.data.toList[k]? == some c) = true) := Lib.hid (by
    intro hlt
    have hl : k < s.data.toList.length := by rw [← sz_len]; exact hlt
    rw [List.getElem?_eq_getElem hl, at_list s k hlt hl]; simp)
  have hno : Hid (¬ k < s.size → (s.data.toList[k]? == some c) = false) := Lib.hid (by
    intro hlt
    rw [List.getElem?_eq_none (by rw [← sz_len]; omega)]; rfl)
  clear h
  cases hb : (s.data.toList[k]? == some c)
  all_goals
    rw [hb] at hpx hif hno
    clear hb
    go_enter Tryd.func31, Tryd.ntmps31
    go_wp2_with fail
    clear c0 c1
    go_region_held3 (fun w' => Below w.heap.size w w' ∧ w'.cell? ⟨p, 0, none⟩ = some (.string s) ∧ w'.cell? ⟨p, 1, none⟩ = some (.int .i64 (k : Int)))
      (first | (exact hmk _ (Below.refl _ _).drew) | (go_split_ands; refine hmk _ ?_; assumption) | (go_split_ands; exact hmk _ ((by assumption : Below w.heap.size w _).then (Nat.le_refl _) (by assumption))))
      (first | (go_at_call 92; go_split_ands; refine (char_any _ _).mono ?_; rintro e w2 ⟨rfl, hB2⟩) | (go_at_call 91; go_split_ands; refine (hpx _).mono ?_; rintro e w3 ⟨rfl, rfl⟩))
    go_split_ands
    have hBw : Below w.heap.size w w2 := by assumption
    have hC2 := H.out.later hBw
    have f1 := hC2.f1
    have hG := Lib.hid (only_of_below hBw (some p))
    have hC2' := Lib.hid hC2
    clear hC2
    go_wp2
    go_ret
    unfold MarkPost
  · by_cases hlt : k < s.size
    · rw [dif_pos hlt, if_neg (fun e => by have := (hif.out hlt).1 e; cases this)]
      exact ⟨rfl, hC2'.out, hG.out⟩
    · rw [dif_neg hlt]
      exact ⟨rfl, hC2'.out, hG.out⟩
  · by_cases hlt : k < s.size
    · rw [dif_pos hlt, if_pos ((hif.out hlt).2 trivial)]
      exact ⟨rfl, hC2'.out.put (k + 1), only_setCell hG.out (.inl rfl) _⟩
    · have := hno.out hlt
      cases this

set_option maxRecDepth 100000 in
theorem refWord (w : World) (p : Nat) (s : ByteArray) (k : Nat) (h : CurAt tR w p s k) (hs : s.size ≤ 1099511627776) (hk : k ≤ s.size) :
    Calls Tryd.prog 27 #[.pointer (some ⟨p, 0, none⟩)] w (CurPost tR w p s (.string ⟨(wordAt s k).toArray⟩) (k + (wordAt s k).length)) := by
  go_enter Tryd.func27, Tryd.ntmps27
  go_wp2
  go_loopg [3] (s.size - k) (fun g o wr => ∃ (j : Nat) (S : ByteArray), k ≤ j ∧ j ≤ s.size ∧ o = .string S ∧ S.size ≤ j ∧ Hid (g = s.size - j) ∧ Hid (CurAt tR wr p s j) ∧ Hid (w.grownBy wr (some p)) ∧ Hid (S.data.toList ++ spanAt tokB s.data.toList j = spanAt tokB s.data.toList k) ∧ Hid (S.data.toList.length = j - k))
  case atStart => exact ⟨k, ⟨#[]⟩, Nat.le_refl _, hk, rfl, Nat.zero_le _, Lib.hid rfl, Lib.hid h, Lib.hid (only_refl _ _), Lib.hid (by simp), Lib.hid (by simp)⟩
  case round =>
    obtain ⟨j, S, hkj, hj, rfl, hSj, hg, hC, hG, hspan, hlen⟩ := hrel
    have c0 := hC.out.c0
    have c1 := hC.out.c1
    have f1 := hC.out.f1
    by_cases hlt : j < s.size
    · have hl : j < s.data.toList.length := by rw [← sz_len]; exact hlt
      have hd : decide (j < s.size) = true := by simpa using hlt
      cases hb : tokB s[j]
      · have hst : Hid (spanAt tokB s.data.toList j = []) := Lib.hid (spanAt_stop hl (by rw [at_list s j hlt hl]; exact hb))
        have hfin : Hid (S = ⟨(wordAt s k).toArray⟩ ∧ k + (wordAt s k).length = j) := Lib.hid (by
          have h1 := hspan.out; rw [hst.out, List.append_nil] at h1
          exact ⟨ba_eq h1, by unfold wordAt; rw [← h1, hlen.out]; omega⟩)
        go_wp2
        go_quiet ((go_at_call 88; exact quiet_left' (refTokenByte _ _)))
        go_wp2
        go_ret
        exact ⟨by rw [← hfin.out.1]; rfl, by rw [hfin.out.2]; exact hC.out.drewN _, only_drewN hG.out _⟩
      · have hgo := spanAt_go hl (by rw [at_list s j hlt hl]; exact hb)
        rw [at_list s j hlt hl] at hgo
        have hgo' := Lib.hid hgo
        clear hgo
        have hx : Hid ((s.extract j (j + 1)).data.toList = [s[j]]) := Lib.hid (by
          rw [Lib.extract_data, List.drop_eq_getElem_cons hl, at_list s j hlt hl, show j + 1 - j = 1 by omega]; rfl)
        have hxs : (s.extract j (j + 1)).size ≤ 1 := by rw [sz_len, hx.out]; exact Nat.le_refl _
        have hadd := fun w' => run_string_add_sum (P := Tryd.prog) w' S (s.extract j (j + 1)) (by omega)
        have hsum : IntKind.i64.wrap ((j : Int) + 1) = (j : Int) + 1 := IntWalk.i64_in _ (by omega)
        have hsum0 : (0 : Int) ≤ (j : Int) + 1 := by omega
        have hsum1 : ((j : Int) + 1).toNat = j + 1 := by omega
        have hsum2 : (j : Int) + 1 ≤ (s.size : Int) := by omega
        have hsum3 : (j : Int) ≤ (j : Int) + 1 := by omega
        go_wp2
        go_quiet ((go_at_call 88; exact quiet_left' (refTokenByte _ _)))
        go_wp2
        go_quiet (fail)
        clear hsum
        go_wp2
        go_roundg (s.size - (j + 1))
        case rel => exact ⟨j + 1, S ++ s.extract j (j + 1), by omega, by omega, rfl, by rw [add_size]; omega, Lib.hid rfl, Lib.hid ((hC.out.drewN _).put (j + 1)), Lib.hid (only_setCell (only_drewN hG.out _) (.inl rfl) _), Lib.hid (by rw [add_toList, hx.out, ← hspan.out, hgo'.out]; simp), Lib.hid (by rw [add_toList, List.length_append, hlen.out, hx.out]; simp; omega)⟩
        case measure => have := hg.out; omega
    · have hd : decide (j < s.size) = false := by simpa using hlt
      have hst : Hid (spanAt tokB s.data.toList j = []) := Lib.hid (spanAt_end (by rw [← sz_len]; omega))
      have hfin : Hid (S = ⟨(wordAt s k).toArray⟩ ∧ k + (wordAt s k).length = j) := Lib.hid (by
        have h1 := hspan.out; rw [hst.out, List.append_nil] at h1
        exact ⟨ba_eq h1, by unfold wordAt; rw [← h1, hlen.out]; omega⟩)
      go_wp2
      go_quiet (fail)
      go_wp2
      go_ret
      exact ⟨by rw [← hfin.out.1]; rfl, by rw [hfin.out.2]; exact hC.out.drewN _, only_drewN hG.out _⟩
end Go.Proofs.YtdpmhkineanloaaDoor
