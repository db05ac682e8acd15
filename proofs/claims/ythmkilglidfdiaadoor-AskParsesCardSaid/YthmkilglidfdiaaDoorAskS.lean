/- ask's reader: gaps, over, named: where the cursor stands behind each. -/
import Derived.Test.YthmkilglidfdiaaDoorParseP
import Derived.Test.YthmkilglidfdiaaDoorCurs
import Derived.Test.YthmkilglidfdiaaDoorErrs
namespace Go.Proofs.YthmkilglidfdiaaDoor
open Go.RowKit

abbrev tRd : TypeId := 64
theorem tw_wide {p q : UInt8 → Bool} (h : ∀ c, p c = true → q c = true) : ∀ l : List UInt8, (l.takeWhile q).length = (l.takeWhile p).length + ((l.drop (l.takeWhile p).length).takeWhile q).length
  | [] => by simp
  | c :: l => by
    cases hp : p c
    · rw [List.takeWhile_cons (p := p), hp]; simp
    · have ih := tw_wide h l
      rw [List.takeWhile_cons (p := p), hp, List.takeWhile_cons (p := q), h c hp]
      simp only [if_true, List.length_cons, List.drop_succ_cons]
      omega
theorem gap_bl (l : List UInt8) (k : Nat) : gapAt l (blAt l k) = gapAt l k := by
  unfold gapAt blAt spanAt
  rw [← List.drop_drop]
  have := tw_wide (p := isBl) (q := isGap) (fun c h => by unfold isGap; rw [h]; rfl) (l.drop k)
  omega
theorem gap_comma {l : List UInt8} {k : Nat} (h : markB l k 44 = true) : gapAt l (k + 1) = gapAt l k := by
  have hk := markB_lt h
  rw [markB_at 44 hk] at h
  unfold gapAt
  rw [spanAt_go hk (by unfold isGap; rw [h]; simp), List.length_cons]
  omega
theorem gap_end {l : List UInt8} {k : Nat} (h : blAt l k = k) (h2 : markB l k 44 = false) : gapAt l k = k := by
  unfold gapAt
  by_cases hk : k < l.length
  · rw [markB_at 44 hk] at h2
    have hb : isBl l[k] = false := by
      cases hb : isBl l[k]
      · rfl
      · unfold blAt at h
        rw [spanAt_go hk hb, List.length_cons] at h
        omega
    rw [spanAt_stop hk (by unfold isGap; rw [hb, h2]; rfl)]; rfl
  · rw [spanAt_end (by omega)]; rfl
theorem clampAt_nat (s : ByteArray) (j : Nat) (h : j ≤ s.size) : clampAt s (j : Int) = j := by unfold clampAt; omega
def markTo (l : List UInt8) (k : Nat) (c : UInt8) : Nat := if markB l k c = true then k + 1 else k
theorem markTo_no {l : List UInt8} {k : Nat} {c : UInt8} (h : markB l k c = false) : markTo l k c = k := by unfold markTo; rw [if_neg (by simp [h])]
theorem markTo_yes {l : List UInt8} {k : Nat} {c : UInt8} (h : markB l k c = true) : markTo l k c = k + 1 := by unfold markTo; rw [if_pos h]
theorem markB_s {s : ByteArray} {k : Nat} (c : UInt8) (hk : k < s.size) : markB s.data.toList k c = (s[k] == c) := by
  have hl : k < s.data.toList.length := by rw [← sz_len]; exact hk
  rw [markB_at c hl, at_list s k hk hl]
theorem stopB_s {s : ByteArray} {k : Nat} (hk : k < s.size) : stopB s.data.toList k = markB s.data.toList k 44 := by
  have hl : k < s.data.toList.length := by rw [← sz_len]; exact hk
  rw [markB_at 44 hl, stopB_at hl]
theorem tokenMarkB (w : World) (p : Nat) (s : ByteArray) (k : Nat) (c : UInt8) (h : CurAt tC w p s k) (hs : s.size ≤ 1099511627776) :
    Calls Tryd.prog 42 #[.pointer (some ⟨p, 0, none⟩), .int .u8 c.toNat] w (CurPost tC w p s (.bool (markB s.data.toList k c)) (markTo s.data.toList k c)) := by
  cases hb : markB s.data.toList k c
  · rw [markTo_no hb]
    exact tokenMark_no w p s k c h hs (by
      intro hk e
      rw [markB_s c hk, e] at hb
      simp at hb)
  · rw [markTo_yes hb]
    have hk := markB_lt hb
    rw [← sz_len] at hk
    exact tokenMark_yes w p s k c h hs hk (by rw [markB_s c hk] at hb; simpa using hb)

section
variable (w : World) (b c : Nat) (s : ByteArray) (k : Nat) (lv : Value)
set_option maxRecDepth 100000 in
theorem askGaps (hR : Blk w b #[.pointer (some ⟨c, 0, none⟩), .string s, lv] tRd) (hC : CurAt tC w c s k) (hbc : c ≠ b) (hs : s.size ≤ 1099511627776) (hk : k ≤ s.size) :
    Calls Tryd.prog 22 #[.pointer (some ⟨b, 0, none⟩)] w (CurPost tC w c s (.tuple #[]) (gapAt s.data.toList k)) := by
  have hR' := Lib.hid hR
  clear hR
  have hbc' : some c ≠ some b := by intro e; cases e; exact hbc rfl
  go_enter Tryd.func22, Tryd.ntmps22
  go_wp2
  go_loopg [] (s.size - k) (fun g wr => ∃ j, j ≤ s.size ∧ Hid (g = s.size - j) ∧ Hid (CurAt tC wr c s j) ∧ Hid (w.grownBy wr (some c)) ∧ Hid (gapAt s.data.toList k = gapAt s.data.toList j))
  case atStart => exact ⟨k, hk, Lib.hid rfl, Lib.hid hC, Lib.hid (only_refl _ _), Lib.hid rfl⟩
  case round =>
    clear hC hk
    obtain ⟨j, hj, hg, hC, hG, he⟩ := hrel
    have hRj := hR'.out.grown hG.out hbc'
    have c0 := hRj.cell 0 rfl
    have h1 := tokenBlanks wr c s j hC.out hs hj
    have hle := blanksN_le s j hj
    obtain ⟨n, hn⟩ : ∃ n, blanksN s j = n := ⟨_, rfl⟩
    have hbl : blAt s.data.toList j = j + n := by rw [← hn]; rfl
    rw [hn] at h1 hle
    have hR2 := Lib.hid hRj
    clear hRj hn
    by_cases hb : 0 < n
    · rw [decide_eq_true hb] at h1
      have he2 : Hid (gapAt s.data.toList k = gapAt s.data.toList (j + n)) := Lib.hid (he.out.trans (by rw [← hbl, gap_bl]))
      clear hbl
      go_wp2_with fail
      refine h1.mono ?_
      rintro e w1 ⟨rfl, hC1, hG1⟩
      have hC1' := Lib.hid hC1
      have hG1' := Lib.hid (only_trans hG.out hG1)
      clear hC1 hG1 h1
      go_wp2
      go_roundg (s.size - (j + n))
      case rel => exact ⟨j + n, hle, Lib.hid rfl, hC1', hG1', he2⟩
      case measure => have := hg.out; omega
    · obtain rfl : n = 0 := by omega
      rw [Nat.add_zero] at h1 hbl
      rw [show decide (0 < 0) = false from rfl] at h1
      have h2 := fun w1 hC1 => tokenMarkB w1 c s j 44 hC1 hs
      rw [show (((44 : UInt8).toNat : Nat) : Int) = 44 from rfl] at h2
      cases hm : markB s.data.toList j 44
      · rw [hm, markTo_no hm] at h2
        have hf := Lib.hid (he.out.trans (gap_end hbl hm))
        clear hbl hm hb
        go_wp2_with fail
        refine h1.mono ?_
        rintro e w1 ⟨rfl, hC1, hG1⟩
        have c1 := (hR2.out.grown hG1 hbc').cell 0 rfl
        go_wp2_with fail
        refine (h2 _ hC1).mono ?_
        rintro e w2 ⟨rfl, hC2, hG2⟩
        clear hC1 h1 h2
        go_wp2
        go_end0
        exact ⟨rfl, by rw [hf.out]; exact hC2, only_trans (only_trans hG.out hG1) hG2⟩
      · rw [hm, markTo_yes hm] at h2
        have hf := Lib.hid (he.out.trans (gap_comma hm).symm)
        have hlt := markB_lt hm
        rw [← sz_len] at hlt
        clear hbl hm hb
        go_wp2_with fail
        refine h1.mono ?_
        rintro e w1 ⟨rfl, hC1, hG1⟩
        have c1 := (hR2.out.grown hG1 hbc').cell 0 rfl
        go_wp2_with fail
        refine (h2 _ hC1).mono ?_
        rintro e w2 ⟨rfl, hC2, hG2⟩
        have hC2' := Lib.hid hC2
        have hG2' := Lib.hid (only_trans (only_trans hG.out hG1) hG2)
        clear hC1 h1 h2 hC2 hG1 hG2
        go_wp2
        go_roundg (s.size - (j + 1))
        case rel => exact ⟨j + 1, by omega, Lib.hid rfl, hC2', hG2', hf⟩
        case measure => have := hg.out; omega
set_option maxRecDepth 100000 in
theorem askOver (hR : Blk w b #[.pointer (some ⟨c, 0, none⟩), .string s, lv] tRd) (hC : CurAt tC w c s k) (hbc : c ≠ b) (hs : s.size ≤ 1099511627776) (hk : k ≤ s.size) :
    Calls Tryd.prog 46 #[.pointer (some ⟨b, 0, none⟩)] w (CurPost tC w c s (.bool (stopB s.data.toList (blAt s.data.toList k))) (blAt s.data.toList k)) := by
  have hbc' : some c ≠ some b := by intro e; cases e; exact hbc rfl
  have h1 := tokenBlanks w c s k hC hs hk
  have hle := blanksN_le s k hk
  obtain ⟨j, hj⟩ : ∃ j, blAt s.data.toList k = j := ⟨_, rfl⟩
  have hj2 : k + blanksN s k = j := hj
  rw [hj2] at h1 hle
  rw [hj]
  have c0 := hR.cell 0 rfl
  have hR' := Lib.hid hR
  clear hR hj hj2 hC
  go_enter Tryd.func46, Tryd.ntmps46
  go_wp2_with fail
  refine h1.mono ?_
  rintro e w1 ⟨rfl, hC1, hG1⟩
  have hR1 := Lib.hid (hR'.out.grown hG1 hbc')
  have c1 := hR1.out.cell 0 rfl
  have hC1' := Lib.hid hC1
  have hG1' := Lib.hid hG1
  have h2 := tokenAt w1 c s j hC1
  have h3 := tokenEnd w1 c s j hC1
  have h5 := fun w4 h => tokenGo w4 c s j (j : Int) h hs
  rw [clampAt_nat s j hle] at h5
  clear h1 hC1 hG1
  go_wp2_with fail
  refine h2.mono ?_
  rintro e w2 ⟨rfl, rfl⟩
  by_cases he : s.size ≤ j
  · rw [decide_eq_true he] at h3
    have hst := Lib.hid (stopB_end (l := s.data.toList) (k := j) (by rw [← sz_len]; exact he))
    go_wp2_with fail
    refine h3.mono ?_
    rintro e w3 ⟨rfl, nq, rfl⟩
    have c3 := (hR1.out.drewN nq).cell 0 rfl
    go_wp2_with fail
    refine (h5 _ (hC1'.out.drewN nq)).mono ?_
    rintro e w4 ⟨rfl, hC4, hG4⟩
    clear h3 h5
    go_wp2
    go_ret
    exact ⟨ret_bool hst.out.symm, hC4, only_trans (only_drewN hG1'.out nq) hG4⟩
  · rw [decide_eq_false he] at h3
    have hst := Lib.hid (stopB_s (s := s) (k := j) (by omega))
    have h4 := fun w1 hC1 => tokenMarkB w1 c s j 44 hC1 hs
    rw [show (((44 : UInt8).toNat : Nat) : Int) = 44 from rfl] at h4
    have h6 := fun w4 h => tokenGo w4 c s (markTo s.data.toList j 44) (j : Int) h hs
    rw [clampAt_nat s j hle] at h6
    clear h5
    obtain ⟨mb, hm⟩ : ∃ mb, markB s.data.toList j 44 = mb := ⟨_, rfl⟩
    rw [hm] at h4 hst
    clear hm
    go_wp2_with fail
    refine h3.mono ?_
    rintro e w3 ⟨rfl, nq, rfl⟩
    have hR3 := Lib.hid (hR1.out.drewN nq)
    have c3 := hR3.out.cell 0 rfl
    go_wp2_with fail
    refine (h4 _ (hC1'.out.drewN nq)).mono ?_
    rintro e w4 ⟨rfl, hC4, hG4⟩
    have c4 := (hR3.out.grown hG4 hbc').cell 0 rfl
    go_wp2_with fail
    refine (h6 _ hC4).mono ?_
    rintro e w5 ⟨rfl, hC5, hG5⟩
    clear h3 h4 h6 hC4
    go_wp2
    go_ret
    exact ⟨ret_bool hst.out.symm, hC5, only_trans (only_trans (only_drewN hG1'.out nq) hG4) hG5⟩
set_option maxRecDepth 100000 in
theorem askNamed (hR : Blk w b #[.pointer (some ⟨c, 0, none⟩), .string s, lv] tRd) (hC : CurAt tC w c s k) (hbc : c ≠ b) (hs : s.size ≤ 1099511627776) (hk : k ≤ s.size) :
    Calls Tryd.prog 49 #[.pointer (some ⟨b, 0, none⟩)] w (CurPost tC w c s (.bool (namedB s.data.toList k)) k) := by
  have hbc' : some c ≠ some b := by intro e; cases e; exact hbc rfl
  have h1 := tokenAt w c s k hC
  have h2 := tokenWord w c s k hC hs hk
  have hle := wordAt_le s k hk
  obtain ⟨X, hX⟩ : ∃ X : ByteArray, X = ⟨(wordAt s k).toArray⟩ := ⟨_, rfl⟩
  have hXl : X.data.toList = wordAt s k := by rw [hX, mk_toList]
  obtain ⟨j, hj⟩ : ∃ j, wEnd s.data.toList k = j := ⟨_, rfl⟩
  have hj2 : k + (wordAt s k).length = j := hj
  rw [hj2] at h2 hle
  rw [← hX] at h2
  have h3 := fun w' h => tokenBlanks w' c s j h hs hle
  have hle2 := blanksN_le s j hle
  obtain ⟨j2, hj3⟩ : ∃ j2, blAt s.data.toList j = j2 := ⟨_, rfl⟩
  have hj4 : j + blanksN s j = j2 := hj3
  rw [hj4] at h3 hle2
  have h5 := fun w4 j5 h => tokenGo w4 c s j5 (k : Int) h hs
  rw [clampAt_nat s k hk] at h5
  have hnm : Hid (namedB s.data.toList k = (!X.toList.isEmpty && markB s.data.toList j2 61)) := Lib.hid (by
    unfold namedB
    rw [hj, hj3, show wordL s.data.toList k = X.data.toList from hXl.symm, Lib.toList_data]
    congr 1
    cases X.data.toList <;> rfl)
  have c0 := hR.cell 0 rfl
  have hR' := Lib.hid hR
  have hC' := Lib.hid hC
  clear hR hj hj2 hj3 hj4 hC hX hXl
  go_enter Tryd.func49, Tryd.ntmps49
  go_wp2_with fail
  refine h1.mono ?_
  rintro e w1 ⟨rfl, rfl⟩
  go_wp2_with fail
  refine h2.mono ?_
  rintro e w2 ⟨rfl, hC2, hG2⟩
  have hR2 := Lib.hid (hR'.out.grown hG2 hbc')
  have c2 := hR2.out.cell 0 rfl
  have hG2' := Lib.hid hG2
  clear hG2 h1 h2
  go_wp2_with fail
  refine (h3 _ hC2).mono ?_
  rintro e w3 ⟨rfl, hC3, hG3⟩
  have hR3 := Lib.hid (hR2.out.grown hG3 hbc')
  have c3 := hR3.out.cell 0 rfl
  have hG3' := Lib.hid (only_trans hG2'.out hG3)
  have hC3' := Lib.hid hC3
  clear hG3 h3 hC2 c2
  cases he : X.toList.isEmpty
  · rw [he] at hnm
    have h4 := fun w1 hC1 => tokenMarkB w1 c s j2 61 hC1 hs
    rw [show (((61 : UInt8).toNat : Nat) : Int) = 61 from rfl] at h4
    obtain ⟨mb, hm⟩ : ∃ mb, markB s.data.toList j2 61 = mb := ⟨_, rfl⟩
    obtain ⟨j6, hj6⟩ : ∃ j6, markTo s.data.toList j2 61 = j6 := ⟨_, rfl⟩
    rw [hm, hj6] at h4
    rw [hm] at hnm
    clear hm hj6
    go_wp2_with fail
    refine (h4 _ hC3).mono ?_
    rintro e w4 ⟨rfl, hC4, hG4⟩
    have hR4 := Lib.hid (hR3.out.grown hG4 hbc')
    have c4 := hR4.out.cell 0 rfl
    clear hC3 h4
    go_wp2_with fail
    refine (h5 _ _ hC4).mono ?_
    rintro e w5 ⟨rfl, hC5, hG5⟩
    clear hC4 h5
    go_wp2
    go_ret
    exact ⟨ret_bool (by rw [hnm.out]; rfl), hC5, only_trans (only_trans hG3'.out hG4) hG5⟩
  · rw [he] at hnm
    go_wp2_with fail
    refine (h5 _ _ hC3).mono ?_
    rintro e w5 ⟨rfl, hC5, hG5⟩
    clear hC3 h5
    go_wp2
    go_ret
    exact ⟨ret_bool (by rw [hnm.out]; rfl), hC5, only_trans hG3'.out hG5⟩
end
end Go.Proofs.YthmkilglidfdiaaDoor
