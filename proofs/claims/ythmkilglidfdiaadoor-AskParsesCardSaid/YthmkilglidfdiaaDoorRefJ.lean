/- The reference's inside: what stands behind a challenge's scheme. -/
import Derived.Test.YthmkilglidfdiaaDoorRefI
namespace Go.Proofs.YthmkilglidfdiaaDoor
open Go.RowKit
theorem all_take {p : UInt8 → Bool} {l : List UInt8} {i : Nat} (h : i < l.length) : (l.take (i + 1)).all p = ((l.take i).all p && p l[i]) := by
  rw [List.take_succ_eq_append_getElem h, List.all_append]; simp
theorem getOf_any (ps : List (ByteArray × ByteArray)) (X : ByteArray) : (getOf ps X).2 = (pdat ps).any (fun q => sameL q.1 X.data.toList) := by
  unfold getOf pdat
  rw [List.any_map]
  cases h : ps.find? (fun p => same p.1 X) with
  | none =>
    rw [List.find?_eq_none] at h
    symm
    rw [List.any_eq_false]
    intro p hp
    have := h p hp
    simpa [sameL, same] using this
  | some p =>
    have h1 := List.find?_some h
    have h2 := List.mem_of_find?_eq_some h
    symm
    rw [List.any_eq_true]
    exact ⟨p, h2, h1⟩
theorem dec_in (n a b : Nat) : (decide ((a : Int) ≤ (n : Int)) && decide ((n : Int) ≤ (b : Int))) = (decide (a ≤ n) && decide (n ≤ b)) := by simp
theorem refMarkB (w : World) (p : Nat) (s : ByteArray) (k : Nat) (c : UInt8) (h : CurAt tR w p s k) (hs : s.size ≤ 1099511627776) (hk : k ≤ s.size) :
    Calls Tryd.prog 38 #[.pointer (some ⟨p, 0, none⟩), .int .u8 c.toNat] w (CurPost tR w p s (.bool (markB s.data.toList k c)) (markTo s.data.toList k c)) := by
  refine (refMark w p s k c h hs hk).mono ?_
  intro e w' hm
  unfold MarkPost at hm
  by_cases hlt : k < s.size
  · rw [dif_pos hlt] at hm
    have hb := markB_s c hlt
    by_cases hc : s[k] = c
    · rw [if_pos hc] at hm
      rw [hc] at hb
      have hb2 : markB s.data.toList k c = true := by rw [hb]; simp
      rw [hb2, markTo_yes hb2]; exact hm
    · rw [if_neg hc] at hm
      have hb2 : markB s.data.toList k c = false := by rw [hb]; simpa using hc
      rw [hb2, markTo_no hb2]; exact hm
  · rw [dif_neg hlt] at hm
    have hb2 : markB s.data.toList k c = false := by
      cases hm2 : markB s.data.toList k c
      · rfl
      · have := markB_lt hm2
        rw [← sz_len] at this
        exact absurd this hlt
    rw [hb2, markTo_no hb2]; exact hm
section
variable {w wx : World} {c q fb : Nat} {s sch tok : ByteArray} {pv : Value} {ps : List (ByteArray × ByteArray)} {k : Nat}
theorem PR.name (h : PR w c q fb s sch tok pv ps k wx) (hcq : c < q) (hqf : q < fb) (T : ByteArray) : PR w c q fb s sch T pv ps k (wx.setCell ⟨q, 1, none⟩ (.string T)) :=
  have ho : Only (fun i => i = q) wx (wx.setCell ⟨q, 1, none⟩ (.string T)) := Only.set (S := fun i => i = q) (Only.refl _ _) (.inl rfl) _
  ⟨h.only.trans (ho.mono (fun i e => .inr (Nat.le_of_eq e.symm))), ho.blk h.cur (by omega), by simpa using h.box.set 1 (.string T), ho.own h.own (fun g hg e => by have := own_lt h.own hg; omega), ho.blk h.flt (by omega)⟩
theorem PR.move (h : PR w c q fb s sch tok pv ps k wx) (hcq : c < q) (hqf : q < fb) (j : Nat) : PR w c q fb s sch tok pv ps j (wx.setCell ⟨c, 1, none⟩ (.int .i64 (j : Int))) :=
  have ho : Only (fun i => i = c) wx (wx.setCell ⟨c, 1, none⟩ (.int .i64 (j : Int))) := Only.set (S := fun i => i = c) (Only.refl _ _) (.inl rfl) _
  ⟨h.only.trans (ho.mono (fun i e => .inl e)), CurAt.put h.cur j, ho.blk h.box (by omega), ho.own h.own (fun g hg e => by have := own_lt h.own hg; omega), ho.blk h.flt (by omega)⟩
end
set_option maxRecDepth 100000 in
set_option maxHeartbeats 20000000 in
set_option linter.unusedSimpArgs false in
theorem refInside (w : World) (c q : Nat) (s sch : ByteArray) (k : Nat) (hC : CurAt tR w c s k) (hQ : Blk w q #[.string sch, .string ⟨#[]⟩, .slice none 0 0] tCh) (hcq : c < q) (hs : s.size ≤ 1000000) (hk : k ≤ s.size) :
    Calls Tryd.prog 19 #[.pointer (some ⟨c, 0, none⟩), .pointer (some ⟨q, 0, none⟩)] w (InsPost w c q s sch (insL s.data.toList k)) := by
  have hs' : s.size ≤ 1099511627776 := by omega
  obtain ⟨R, hR⟩ : ∃ R : ByteArray, R = s.extract k s.size := ⟨_, rfl⟩
  have hRl : R.data.toList = s.data.toList.drop k := by rw [hR, Lib.extract_to_end]
  have hRs : R.size = s.size - k := by rw [hR, ByteArray.size_extract]; omega
  obtain ⟨en, hen⟩ : ∃ en, (befL 44 R.data.toList).length = en := ⟨_, rfl⟩
  have henR : en ≤ R.size := by rw [← hen, sz_len]; exact befL_len _ _
  obtain ⟨sg, hsg⟩ : ∃ sg : ByteArray, sg = R.extract 0 en := ⟨_, rfl⟩
  have hsgl : sg.data.toList = befL 44 R.data.toList := by rw [hsg, Lib.extract_data, List.drop_zero, ← hen]; exact bef_take 44 _
  have hix := fun w' => Tryd.strings_IndexByte R 44 w'
  rw [show ((44 : Int).toNat).toUInt8 = 44 from rfl] at hix
  have hsgs : sg.size ≤ R.size := by rw [hsg, ByteArray.size_extract]; omega
  have ht1 := fun w' => stringsTrimRight sg ⟨#[32, 9]⟩ w' (by omega) (by decide) (Go.Proofs.ascii_of_all (by decide))
  obtain ⟨Wt, hWt⟩ : ∃ T : ByteArray, T = ⟨(Lib.trimRightS sg.data.toList (⟨#[32, 9]⟩ : ByteArray).data.toList).toArray⟩ := ⟨_, rfl⟩
  rw [← hWt] at ht1
  have hWl : Wt.data.toList = rtrim isBl (befL 44 R.data.toList) := by rw [hWt, mk_toList, rtrim_cut isBl _ _ bl_cut, hsgl]
  have hWs : Wt.size ≤ 1000000 := by
    rw [sz_len, hWl]
    have := rtrim_len isBl (befL 44 R.data.toList)
    omega
  have ht2 := fun w' => stringsTrimRight Wt ⟨#[61]⟩ w' (by omega) (by decide) (Go.Proofs.ascii_of_all (by decide))
  obtain ⟨Bd, hBd⟩ : ∃ T : ByteArray, T = ⟨(Lib.trimRightS Wt.data.toList (⟨#[61]⟩ : ByteArray).data.toList).toArray⟩ := ⟨_, rfl⟩
  rw [← hBd] at ht2
  have hBl : Bd.data.toList = rtrim (· == 61) Wt.data.toList := by rw [hBd, mk_toList, rtrim_cut (· == 61) _ _ eq_cut]
  have hBs : Bd.size ≤ 1000000 := by
    rw [sz_len, hBl]
    have := rtrim_len (· == 61) Wt.data.toList
    rw [← sz_len] at this
    omega
  have hlr : Hid (loneAt s.data.toList k = if (!Bd.toList.isEmpty && Bd.data.toList.all loneB) = true then some (Wt.data.toList, k + en) else none) := Lib.hid (by
    rw [← lone_same]
    unfold loneRef
    simp only
    rw [show (s.data.toList.drop k).takeWhile (fun c => c != 44) = befL 44 R.data.toList by rw [hRl]; rfl, ← hWl, ← hBl, hen]
    by_cases hb : Bd.data.toList = []
    · rw [if_neg (by simp [hb]), if_neg (by rw [Lib.toList_data, hb]; simp)]
    · have he : Bd.toList.isEmpty = false := by
        rw [Lib.toList_data]
        cases hq : Bd.data.toList with
        | nil => exact absurd hq hb
        | cons a r => rfl
      rw [he]
      by_cases ha : Bd.data.toList.all loneB = true
      · rw [if_pos ⟨hb, ha⟩, if_pos (by rw [ha]; rfl)]
      · rw [if_neg (fun h => ha h.2), if_neg (by simpa using ha)])
  have hivs : Hid ((R.data.toList.contains 44 = true → Lib.indexByte R.data.toList 44 = (en : Int)) ∧ (R.data.toList.contains 44 = false → Lib.indexByte R.data.toList 44 = -1 ∧ R.size = en)) := Lib.hid ⟨fun h => by rw [idx_has 44 _ h, hen], fun h => ⟨idx_no 44 _ h, by rw [← hen, bef_no 44 _ h, sz_len]⟩⟩
  obtain ⟨iv, hiv⟩ : ∃ iv, Lib.indexByte R.data.toList 44 = iv := ⟨_, rfl⟩
  rw [hiv] at hix hivs
  have hRh := Lib.hid hR
  have hsgh := Lib.hid hsg
  have hin := Lib.hid (fun t e h => ins_lone (l := s.data.toList) (k := k) (t := t) (e := e) h)
  have hip := Lib.hid (fun h => ins_params (l := s.data.toList) (k := k) h)
  have hkR : k + en ≤ s.size := by omega
  have c0 : (w.alloc (Obj.cells #[.int .i64 0, .int .i64 0] 25)).cell? ⟨c, 0, none⟩ = some (.string s) := (Blk.alloc hC _).cell 0 rfl
  have c1 : (w.alloc (Obj.cells #[.int .i64 0, .int .i64 0] 25)).cell? ⟨c, 1, none⟩ = some (.int .i64 (k : Int)) := (Blk.alloc hC _).cell 1 rfl
  have hCh := Lib.hid hC
  have hQh := Lib.hid hQ
  have hqw := hQ.lt
  obtain ⟨res, hres⟩ : ∃ res, insL s.data.toList k = res := ⟨_, rfl⟩
  rw [hres] at hin hip
  rw [hres]
  obtain ⟨fb, hfb⟩ : ∃ fb, fb = w.heap.size := ⟨_, rfl⟩
  have hqf : q < fb := by omega
  have hkk : (k : Int) ≤ (s.size : Int) := by omega
  have hFl := Lib.hid (Blk.new w #[.int .i64 0, .int .i64 0] tFl)
  rw [← hfb] at hFl
  clear hR hsg hRl hen hsgl hWt hWl hBd hBl hiv hres hC hQ hRs
  go_enter Tryd.func19, Tryd.ntmps19
  go_wp2
  go_quiet (fail)
  go_wp2_with fail
  subst hfb
  rw [← hRh.out]
  generalize hw1 : (w.alloc (Obj.cells #[.int .i64 0, .int .i64 0] 25)).drewN nq = w1
  have hP1 : Hid (PR w c q w.heap.size s sch ⟨#[]⟩ (.slice none 0 0) [] k w1) := Lib.hid (by
    rw [← hw1]
    exact ⟨((Only.refl _ _).alloc _).drewN _, (hCh.out.alloc _).drewN _, (hQh.out.alloc _).drewN _, OwnG.nil _ _, hFl.out.drewN _⟩)
  clear hw1 c0 c1
  refine (hix _).mono ?_
  rintro e w2 ⟨rfl, rfl⟩
  go_upto_if 30 with (fail)
  go_cut [6] (fun v wx => v = .int .i64 (en : Int) ∧ w2 = wx)
  case first =>
    cases hc : R.data.toList.contains 44
    · obtain ⟨e1, rfl⟩ := hivs.out.2 hc
      subst e1
      clear hc
      go_wp2
      go_meet
      exact ⟨rfl, rfl⟩
    · have e1 := hivs.out.1 hc
      subst e1
      clear hc
      go_wp2
      go_meet
      exact ⟨rfl, rfl⟩
  case rest =>
    obtain ⟨rfl, rfl⟩ := hcut
    have z1 : (en : Int) ≤ (R.size : Int) := by omega
    clear hix hivs
    go_wp2_with fail
    rw [← hsgh.out]
    refine (ht1 _).mono ?_
    rintro e w3 ⟨rfl, hB3⟩
    have hP3 := Lib.hid (hP1.out.later hcq hB3)
    clear hP1 hB3 ht1
    go_wp2_with fail
    refine (ht2 _).mono ?_
    rintro e w4 ⟨rfl, hB4⟩
    have hP4 := Lib.hid (hP3.out.later hcq hB4)
    clear hP3 hB4 ht2
    go_wp2
    go_loopw [9, 43] (fun v9 vi wr => ∃ (i : Nat) (b : Bool), i ≤ Bd.size ∧ vi = .int .i64 i ∧ v9 = .bool b ∧ w4 = wr ∧ Hid (b = (!Bd.toList.isEmpty && (Bd.data.toList.take i).all loneB))) (fun _ vi _ => Bd.size - (intOf vi).toNat)
    case atStart => exact ⟨0, _, Nat.zero_le _, rfl, rfl, rfl, Lib.hid (by simp)⟩
    case round =>
      obtain ⟨i, b, hi, rfl, rfl, rfl, hb⟩ := hrel
      by_cases hlt : i < Bd.size
      · have hll : i < Bd.data.toList.length := by rw [← sz_len]; exact hlt
        have hnx := Lib.hid (all_take (p := loneB) hll)
        rw [at_list Bd i hlt hll] at hnx
        have hl1 := Lib.hid (lone_bits Bd[i])
        have hx8 := bd8 Bd[i]
        have hc256 : (Bd[i].toNat : Int) < 256 := by have := Bd[i].toNat_lt; omega
        cases b
        · go_wp2
          go_roundw
          case rel => exact ⟨i + 1, false, by omega, by go_num, by trivial, by trivial, Lib.hid (by
            rw [hnx.out]
            have := hb.out
            cases he : Bd.toList.isEmpty
            · rw [he] at this
              have h2 : (Bd.data.toList.take i).all loneB = false := by simpa using this.symm
              rw [h2]; rfl
            · rfl)⟩
          case measure => simp [intOf]; omega
        · have hbt : Hid (∀ v, loneB Bd[i] = v → v = (!Bd.toList.isEmpty && (Bd.data.toList.take (i + 1)).all loneB)) := Lib.hid (by
            intro v hv
            rw [hnx.out, hv]
            have := hb.out
            cases he : Bd.toList.isEmpty
            · rw [he] at this
              have h2 : (Bd.data.toList.take i).all loneB = true := by simpa using this.symm
              rw [h2]; simp
            · rw [he] at this; cases this)
          obtain ⟨b1, hb1⟩ : ∃ b1, (decide (97 ≤ Bd[i].toNat) && decide (Bd[i].toNat ≤ 122)) = b1 := ⟨_, rfl⟩
          obtain ⟨b2, hb2⟩ : ∃ b2, (decide (65 ≤ Bd[i].toNat) && decide (Bd[i].toNat ≤ 90)) = b2 := ⟨_, rfl⟩
          obtain ⟨b3, hb3⟩ : ∃ b3, (decide (48 ≤ Bd[i].toNat) && decide (Bd[i].toNat ≤ 57)) = b3 := ⟨_, rfl⟩
          have i1 := fun w' => within_any (Bd[i].toNat : Int) 97 122 w'
          have i2 := fun w' => within_any (Bd[i].toNat : Int) 65 90 w'
          have i3 := fun w' => within_any (Bd[i].toNat : Int) 48 57 w'
          rw [show (decide ((97 : Int) ≤ (Bd[i].toNat : Int)) && decide ((Bd[i].toNat : Int) ≤ 122)) = b1 from (dec_in Bd[i].toNat 97 122).trans hb1] at i1
          rw [show (decide ((65 : Int) ≤ (Bd[i].toNat : Int)) && decide ((Bd[i].toNat : Int) ≤ 90)) = b2 from (dec_in Bd[i].toNat 65 90).trans hb2] at i2
          rw [show (decide ((48 : Int) ≤ (Bd[i].toNat : Int)) && decide ((Bd[i].toNat : Int) ≤ 57)) = b3 from (dec_in Bd[i].toNat 48 57).trans hb3] at i3
          have i4 := fun w' => Tryd.strings_IndexByte ⟨#[45, 46, 95, 126, 43, 47]⟩ (Bd[i].toNat : Int) w'
          rw [show ((Bd[i].toNat : Int)).toNat.toUInt8 = Bd[i] by simp, show (⟨#[45, 46, 95, 126, 43, 47]⟩ : ByteArray).data.toList = [45, 46, 95, 126, 43, 47] from rfl] at i4
          have hcn := Lib.contains_iff_indexByte [45, 46, 95, 126, 43, 47] Bd[i]
          obtain ⟨jv, hjv⟩ : ∃ jv, Lib.indexByte [45, 46, 95, 126, 43, 47] Bd[i] = jv := ⟨_, rfl⟩
          rw [hjv] at hcn i4
          rw [hb1, hb2, hb3, hcn] at hl1
          clear hb1 hb2 hb3 hcn hjv
          cases b1
          · cases b2
            · cases b3
              · by_cases hj0 : 0 ≤ jv
                · rw [decide_eq_true hj0] at hl1
                  have hv := Lib.hid (hbt.out _ hl1.out.symm)
                  go_wp2_with fail
                  refine (i1 _).mono ?_
                  clear i1
                  rintro e w' ⟨rfl, rfl⟩
                  go_wp2_with fail
                  refine (i2 _).mono ?_
                  clear i2
                  rintro e w' ⟨rfl, rfl⟩
                  go_wp2_with fail
                  refine (i3 _).mono ?_
                  clear i3
                  rintro e w' ⟨rfl, rfl⟩
                  go_wp2_with fail
                  refine (i4 _).mono ?_
                  clear i4
                  rintro e w' ⟨rfl, rfl⟩
                  go_wp2
                  go_roundw
                  case rel => exact ⟨i + 1, true, by omega, by go_num, by trivial, by trivial, hv⟩
                  case measure => simp [intOf]; omega
                · have hd0 : decide (0 ≤ jv) = false := decide_eq_false hj0
                  rw [hd0] at hl1
                  have hv := Lib.hid (hbt.out _ hl1.out.symm)
                  go_wp2_with fail
                  refine (i1 _).mono ?_
                  clear i1
                  rintro e w' ⟨rfl, rfl⟩
                  go_wp2_with fail
                  refine (i2 _).mono ?_
                  clear i2
                  rintro e w' ⟨rfl, rfl⟩
                  go_wp2_with fail
                  refine (i3 _).mono ?_
                  clear i3
                  rintro e w' ⟨rfl, rfl⟩
                  go_wp2_with fail
                  refine (i4 _).mono ?_
                  clear i4
                  rintro e w' ⟨rfl, rfl⟩
                  go_wp2
                  go_roundw
                  case rel => exact ⟨i + 1, false, by omega, by go_num, by trivial, by trivial, hv⟩
                  case measure => simp [intOf]; omega
              · have hv := Lib.hid (hbt.out _ hl1.out.symm)
                go_wp2_with fail
                refine (i1 _).mono ?_
                clear i1
                rintro e w' ⟨rfl, rfl⟩
                go_wp2_with fail
                refine (i2 _).mono ?_
                clear i2
                rintro e w' ⟨rfl, rfl⟩
                go_wp2_with fail
                refine (i3 _).mono ?_
                clear i3
                rintro e w' ⟨rfl, rfl⟩
                go_wp2
                go_roundw
                case rel => exact ⟨i + 1, true, by omega, by go_num, by trivial, by trivial, hv⟩
                case measure => simp [intOf]; omega
            · have hv := Lib.hid (hbt.out _ hl1.out.symm)
              go_wp2_with fail
              refine (i1 _).mono ?_
              clear i1
              rintro e w' ⟨rfl, rfl⟩
              go_wp2_with fail
              refine (i2 _).mono ?_
              clear i2
              rintro e w' ⟨rfl, rfl⟩
              go_wp2
              go_roundw
              case rel => exact ⟨i + 1, true, by omega, by go_num, by trivial, by trivial, hv⟩
              case measure => simp [intOf]; omega
          · have hv := Lib.hid (hbt.out _ hl1.out.symm)
            go_wp2_with fail
            refine (i1 _).mono ?_
            clear i1
            rintro e w' ⟨rfl, rfl⟩
            go_wp2
            go_roundw
            case rel => exact ⟨i + 1, true, by omega, by go_num, by trivial, by trivial, hv⟩
            case measure => simp [intOf]; omega
      · obtain rfl : i = Bd.size := by omega
        rw [show Bd.data.toList.take Bd.size = Bd.data.toList by rw [sz_len, List.take_length]] at hb
        cases b
        · have hln := Lib.hid (hlr.out.trans (if_neg (by rw [← hb.out]; simp)))
          have hr0 := Lib.hid (hip.out hln.out)
          clear hb hlr hin hip hln
          go_wp2
          clear hlt hi
          go_loopg [] (s.size + 1 - k) (fun g wr => ∃ (kk f : Nat) (pv : Value) (ps : List (ByteArray × ByteArray)), kk ≤ s.size ∧ ps.length ≤ 16 ∧ Hid (g = s.size + 1 - kk) ∧ Hid (∀ p ∈ ps, p.1.size ≤ 1000000 ∧ p.2.size ≤ 1000000) ∧ Hid (PR w c q w.heap.size s sch ⟨#[]⟩ pv ps kk wr) ∧ Hid (s.size < kk + f ∧ res = insOf (paramsGo s.data.toList f kk (pdat ps))))
          case atStart => exact ⟨k, _, .slice none 0 0, [], hk, Nat.zero_le _, Lib.hid rfl, Lib.hid (fun p hp => by simp at hp), hP4, Lib.hid ⟨by rw [← sz_len]; omega, hr0.out⟩⟩
          case round =>
            obtain ⟨kk, f, pv, ps, hkk2, hpl, hg, hzh, hP, hinv⟩ := hrel
            clear hP4 hr0
            obtain ⟨hf, hrs⟩ := hinv.out
            obtain ⟨f', rfl⟩ : ∃ f', f = f' + 1 := ⟨f - 1, by omega⟩
            have hpvw : ∀ g, pv.ownBlock = some g → g < wr.heap.size := fun g hg => (own_lt hP.out.own hg).2
            have hfw : w.heap.size < wr.heap.size := hP.out.flt.lt
            have h2 := refWord wr c s kk hP.out.cur hs' hkk2
            have hle := wordAt_le s kk hkk2
            obtain ⟨X, hX⟩ : ∃ X : ByteArray, X = ⟨(wordAt s kk).toArray⟩ := ⟨_, rfl⟩
            have hXl : X.data.toList = wordL s.data.toList kk := by rw [hX, mk_toList]; rfl
            have hXs : X.size ≤ 1000000 := by
              have : X.size = (wordAt s kk).length := by rw [hX, mk_len]
              omega
            obtain ⟨j, hj⟩ : ∃ j, wEnd s.data.toList kk = j := ⟨_, rfl⟩
            have hj0 : kk + (wordAt s kk).length = j := hj
            rw [hj0] at h2 hle
            rw [← hX] at h2
            have h3 := fun w' h => refBlanks w' c s j h hs' hle
            have hle2 := blanksN_le s j hle
            obtain ⟨j2, hj3⟩ : ∃ j2, blAt s.data.toList j = j2 := ⟨_, rfl⟩
            have hj4 : j + blanksN s j = j2 := hj3
            rw [hj4] at h3 hle2
            have e2 : blAt s.data.toList (wEnd s.data.toList kk) = j2 := by rw [hj, hj3]
            have hjk : kk ≤ j2 := by omega
            have hbad := Lib.hid (fun h => (show res = .inl (3, j2) from hrs.trans (by rw [go_inl (paramAt_bad (l := s.data.toList) (k := kk) (pdat ps) h), e2]; rfl)))
            have hnone := Lib.hid (fun h hv => paramAt_none (l := s.data.toList) (k := kk) (pdat ps) h hv)
            have hsome := Lib.hid (fun v k4 h hv => paramAt_some (l := s.data.toList) (k := kk) (pdat ps) (v := v) (k4 := k4) h hv)
            rw [e2, ← hXl] at hbad hnone hsome
            rw [pdat_len] at hsome
            have hrs' := Lib.hid hrs
            have c1 := hP.out.cur.c1
            clear hj hj0 hj3 hj4 hX hXl e2 hrs hinv
            go_wp2_with fail
            refine h2.mono ?_
            rintro e w2 ⟨rfl, hC2, hG2⟩
            have hP2 := hP.out.turn hcq hqf hC2 hG2
            have hsz2 := hG2.size
            have hP3 := Lib.hid (hP2.later hcq ((Below.refl _ _).alloc (Nat.le_refl _) (Obj.cells #[.string X, .string ⟨#[]⟩] tPr)))
            have hN3 := Lib.hid (Blk.new w2 #[.string X, .string ⟨#[]⟩] tPr)
            obtain ⟨p0, hp0⟩ : ∃ p0, p0 = w2.heap.size := ⟨_, rfl⟩
            have hq0 : q < p0 := by omega
            have hpf : p0 ≠ w.heap.size := by omega
            have hpv0 : ∀ g, pv.ownBlock = some g → g ≠ p0 := fun g hg => by have := hpvw g hg; omega
            clear c1 h2 hG2 hC2 hP2
            go_wp2_with fail
            refine (h3 _ hP3.out.cur).mono ?_
            rintro e w4 ⟨rfl, hC4, hG4⟩
            have hP4 := Lib.hid (hP3.out.turn hcq hqf hC4 hG4)
            have hN4 := Lib.hid (hN3.out.grown hG4 (by intro e; cases e; omega))
            rw [← hp0] at hN4 ⊢
            clear hp0 hG4 hC4 h3 hP3 hN3
            have n0 := hN4.out.cell 0 rfl
            cases hXe : X.toList.isEmpty
            · have hXn : X.data.toList ≠ [] := by intro e; rw [Lib.toList_data, e] at hXe; cases hXe
              have hM := fun w' h => refMarkB w' c s j2 61 h hs' hle2
              rw [show (((61 : UInt8).toNat : Nat) : Int) = 61 from rfl] at hM
              cases hm : markB s.data.toList j2 61
              · rw [hm, markTo_no hm] at hM
                have hr := Lib.hid (hbad.out (.inr hm))
                clear hm hXn hbad hnone hsome
                go_wp2_with fail
                refine (hM _ hP4.out.cur).mono ?_
                rintro e w5 ⟨rfl, hC5, hG5⟩
                have hP5 := Lib.hid (hP4.out.turn hcq hqf hC5 hG5)
                have c1 := hP5.out.cur.c1
                clear hM hC5 hG5 n0
                have g0 := hP5.out.flt.cell 0 rfl
                have g1 := hP5.out.flt.cell 1 rfl
                have v0 := hP5.out.flt.free 0
                have v1 := hP5.out.flt.free 1
                have hOn := Lib.hid ((hP5.out.only.set (p := ⟨w.heap.size, 0, none⟩) (.inl (.inr (Nat.le_of_lt hqf))) (.int .i64 3)).set (p := ⟨w.heap.size, 1, none⟩) (.inl (.inr (Nat.le_of_lt hqf))) (.int .i64 (j2 : Int)))
                go_upto_region 22 with (fail)
                (repeat (first | go_values | go_skip | go_guarded | go_step | go_upon))
                obtain ⟨y0, y1⟩ := set_two (.int .i64 3) (.int .i64 (j2 : Int)) g0 g1
                (try simp only [Exit.inBlock, Exit.then])
                refine bodyPost_ret (v := .agg #[.int .i64 3, .int .i64 (j2 : Int)]) (by simp [results, Tryd.results19, go_sem, y0, y1]; try rfl) rfl ?_
                exact ⟨hOn.out, by rw [hr.out]⟩
              · rw [hm, markTo_yes hm] at hM
                have hlt := markB_lt hm
                rw [← sz_len] at hlt
                have hok : Hid (¬(X.data.toList = [] ∨ markB s.data.toList j2 61 = false)) := Lib.hid (by rw [hm]; simp [hXn])
                have h4 := fun w' h => refBlanks w' c s (j2 + 1) h hs' hlt
                have hle3 := blanksN_le s (j2 + 1) hlt
                obtain ⟨k3, hk3⟩ : ∃ k3, blAt s.data.toList (j2 + 1) = k3 := ⟨_, rfl⟩
                have hk32 : j2 + 1 + blanksN s (j2 + 1) = k3 := hk3
                rw [hk32] at h4 hle3
                have h5 := fun w' h => refWord w' c s k3 h hs' hle3
                have hle4 := wordAt_le s k3 hle3
                obtain ⟨Y, hY⟩ : ∃ Y : ByteArray, Y = ⟨(wordAt s k3).toArray⟩ := ⟨_, rfl⟩
                have hYl : Y.data.toList = wordL s.data.toList k3 := by rw [hY, mk_toList]; rfl
                have hYs : Y.size ≤ 1000000 := by
                  have : Y.size = (wordAt s k3).length := by rw [hY, mk_len]
                  omega
                obtain ⟨j4, hj4⟩ : ∃ j4, wEnd s.data.toList k3 = j4 := ⟨_, rfl⟩
                have hj42 : k3 + (wordAt s k3).length = j4 := hj4
                rw [hj42] at h5 hle4
                rw [← hY] at h5
                have hyes : Hid (Y.toList.isEmpty = false → valAt s.data.toList k3 = some (Y.data.toList, j4)) := Lib.hid (by
                  intro h
                  unfold valAt
                  rw [if_neg (by rw [← hYl]; intro e; rw [Lib.toList_data, e] at h; cases h), hYl, hj4])
                have hemp : Hid (Y.toList.isEmpty = true → valAt s.data.toList k3 = quotedAt s.data.toList k3 ∧ j4 = k3) := Lib.hid (by
                  intro h
                  have h0 : wordL s.data.toList k3 = [] := by rw [← hYl]; rw [Lib.toList_data] at h; simpa using h
                  unfold valAt
                  refine ⟨by rw [if_pos h0], ?_⟩
                  rw [← hj4]; unfold wEnd; rw [h0]; rfl)
                have hkk3 : kk < k3 := by omega
                rw [hk3] at hnone hsome
                clear hm hXn hk3 hk32 hY hYl hj4 hj42 hbad
                go_wp2_with fail
                refine (hM _ hP4.out.cur).mono ?_
                rintro e w5 ⟨rfl, hC5, hG5⟩
                have hP5 := Lib.hid (hP4.out.turn hcq hqf hC5 hG5)
                have hN5 := Lib.hid (hN4.out.grown hG5 (by intro e; cases e; omega))
                clear hM hC5 hG5 n0 hP4 hN4
                go_wp2_with fail
                refine (h4 _ hP5.out.cur).mono ?_
                rintro e w6 ⟨rfl, hC6, hG6⟩
                have hP6 := Lib.hid (hP5.out.turn hcq hqf hC6 hG6)
                have hN6 := Lib.hid (hN5.out.grown hG6 (by intro e; cases e; omega))
                clear h4 hC6 hG6 hP5 hN5
                go_wp2_with fail
                refine (h5 _ hP6.out.cur).mono ?_
                rintro e w7 ⟨rfl, hC7, hG7⟩
                have hP7 := Lib.hid (hP6.out.turn hcq hqf hC7 hG7)
                have hN7 := Lib.hid (hN6.out.grown hG7 (by intro e; cases e; omega))
                have n1 := hN7.out.cell 1 rfl
                have g1 := hN7.out.free 1
                clear h5 hC7 hG7 hP6 hN6
                go_upto_if 114 with (fail)
                have hP8 := Lib.hid (hP7.out.put hcq hq0 hpf hpv0 1 (.string Y))
                have hN8 := Lib.hid (show Blk (w7.setCell ⟨p0, 1, none⟩ (.string Y)) p0 #[.string X, .string Y] tPr by simpa using hN7.out.set 1 (.string Y))
                go_cut [12, 13] (fun v12 v13 wx => v12 = .int .i64 (kk : Int) ∧ v13 = .pointer (some ⟨p0, 0, none⟩) ∧ ∃ (V : ByteArray) (k4 : Nat), k4 ≤ s.size ∧ kk < k4 ∧ V.size ≤ 1000000 ∧ Hid (valAt s.data.toList k3 = some (V.data.toList, k4)) ∧ Hid (PR w c q w.heap.size s sch ⟨#[]⟩ pv ps k4 wx) ∧ Hid (Blk wx p0 #[.string X, .string V] tPr))
                case first =>
                  cases hYe : Y.toList.isEmpty
                  · have hv := Lib.hid (hyes.out hYe)
                    have hj4k : kk < j4 := by
                      have h9 := valAt_bd (l := s.data.toList) (k := k3) (by rw [← sz_len]; exact hle3) hv.out
                      simp only at h9
                      omega
                    clear n1 g1
                    go_wp2
                    go_meet
                    exact ⟨rfl, rfl, Y, j4, hle4, hj4k, hYs, hv, hP8, hN8⟩
                  · obtain ⟨hv0, rfl⟩ := hemp.out hYe
                    have h6 := fun w' h => refQuoted w' c s j4 h hs' hle4
                    unfold QPost at h6
                    generalize hw8 : w7.setCell ⟨p0, 1, none⟩ (.string Y) = w8 at hP8 hN8 ⊢
                    clear n1 g1 hw8
                    cases hq : quotedAt s.data.toList j4 with
                    | none =>
                      simp only [hq] at h6
                      have hr := Lib.hid (show res = .inl (3, j4) from hrs'.out.trans (by rw [go_inl (hnone.out hok.out (hv0.trans hq))]; rfl))
                      clear hq hv0 hnone hsome
                      go_wp2_with fail
                      refine (h6 _ hP8.out.cur).mono ?_
                      rintro e w9 ⟨rfl, hC9, hG9⟩
                      have hP9 := Lib.hid (hP8.out.turn hcq hqf hC9 hG9)
                      have hN9 := Lib.hid (hN8.out.grown hG9 (by intro e; cases e; omega))
                      have n1 := hN9.out.cell 1 rfl
                      have g1' := hN9.out.free 1
                      have hPa := Lib.hid (hP9.out.put hcq hq0 hpf hpv0 1 (.string ⟨#[]⟩))
                      have c1 := hPa.out.cur.c1
                      clear h6 hC9 hG9
                      go_upto_if 122 with (fail)
                      generalize w9.setCell ⟨p0, 1, none⟩ (.string ⟨#[]⟩) = wa at hPa c1 ⊢
                      clear n1 g1'
                      have g0 := hPa.out.flt.cell 0 rfl
                      have g1 := hPa.out.flt.cell 1 rfl
                      have v0 := hPa.out.flt.free 0
                      have v1 := hPa.out.flt.free 1
                      have hOn := Lib.hid ((hPa.out.only.set (p := ⟨w.heap.size, 0, none⟩) (.inl (.inr (Nat.le_of_lt hqf))) (.int .i64 3)).set (p := ⟨w.heap.size, 1, none⟩) (.inl (.inr (Nat.le_of_lt hqf))) (.int .i64 (j4 : Int)))
                      go_upto_region 28 with (fail)
                      (repeat (first | go_values | go_skip | go_guarded | go_step | go_upon))
                      obtain ⟨y0, y1⟩ := set_two (.int .i64 3) (.int .i64 (j4 : Int)) g0 g1
                      (try simp only [Exit.inBlock, Exit.then])
                      refine bodyPost_ret (v := .agg #[.int .i64 3, .int .i64 (j4 : Int)]) (by simp [results, Tryd.results19, go_sem, y0, y1]; try rfl) rfl ?_
                      exact ⟨hOn.out, by rw [hr.out]⟩
                    | some z =>
                      obtain ⟨v, k4⟩ := z
                      simp only [hq] at h6
                      have hbd := quotedAt_bd hq
                      obtain ⟨V, hV⟩ : ∃ V : ByteArray, V = ⟨v.toArray⟩ := ⟨_, rfl⟩
                      have hVl : V.data.toList = v := by rw [hV, mk_toList]
                      have hVs : V.size ≤ 1000000 := by
                        have := hbd.1
                        rw [sz_len, hVl]
                        rw [← sz_len] at this
                        simp only at this
                        omega
                      have hk4 : k4 ≤ s.size := by rw [sz_len]; exact hbd.2.2
                      have hk4k : kk < k4 := by have := hbd.2.1; simp only at this; omega
                      have hv := Lib.hid (show valAt s.data.toList j4 = some (V.data.toList, k4) by rw [hv0, hq, hVl])
                      rw [← hV] at h6
                      clear hq hv0 hbd hV hVl
                      go_wp2_with fail
                      refine (h6 _ hP8.out.cur).mono ?_
                      rintro e w9 ⟨rfl, hC9, hG9⟩
                      have hP9 := Lib.hid (hP8.out.turn hcq hqf hC9 hG9)
                      have hN9 := Lib.hid (hN8.out.grown hG9 (by intro e; cases e; omega))
                      have n1 := hN9.out.cell 1 rfl
                      have g1 := hN9.out.free 1
                      have hPa := Lib.hid (hP9.out.put hcq hq0 hpf hpv0 1 (.string V))
                      have hNa := Lib.hid (show Blk (w9.setCell ⟨p0, 1, none⟩ (.string V)) p0 #[.string X, .string V] tPr by simpa using hN9.out.set 1 (.string V))
                      clear h6 hC9 hG9
                      go_wp2
                      go_meet
                      exact ⟨rfl, rfl, V, k4, hk4, hk4k, hVs, hv, hPa, hNa⟩
                case rest =>
                  obtain ⟨rfl, rfl, V, k4, hk4, hk4k, hVs, hv, hPv, hN⟩ := hcut
                  have hsm := Lib.hid (hsome.out V.data.toList k4 hok.out hv.out)
                  clear hsome hnone hok hv hyes hemp hP8 hN8 n1 g1 hP7 hN7 hP
                  obtain ⟨a, cap, rfl, _, hcap, hcm, _⟩ := OwnG.shape encPar_len hPv.out.own
                  have hag := Lib.hid (getOf_any ps X)
                  have hga := fun w' h => refAskGet sch ⟨#[]⟩ a cap ps X w' h (fun p hp => ⟨by have := (hzh.out p hp).1; unfold maxLen; omega, by have := (hzh.out p hp).2; unfold maxLen; omega⟩) (by unfold maxLen; omega) (by unfold maxLen; omega)
                  obtain ⟨gv, hgv⟩ : ∃ gv, (getOf ps X).1 = gv := ⟨_, rfl⟩
                  obtain ⟨gb, hgb⟩ : ∃ gb, (getOf ps X).2 = gb := ⟨_, rfl⟩
                  rw [hgv, hgb] at hga
                  rw [hgb] at hag
                  have hPN := fun w' (hB : Below wc.heap.size wc w') => And.intro (hPv.out.later hcq hB) (hN.out.later hB)
                  have hmk : ∀ w', Below wc.heap.size wc w' → Below wc.heap.size wc w' ∧ w'.cell? ⟨q, 0, none⟩ = some (.string sch) ∧ w'.cell? ⟨q, 1, none⟩ = some (.string ⟨#[]⟩) ∧ w'.cell? ⟨q, 2, none⟩ = some (.slice a ps.length cap) ∧ w'.cell? ⟨p0, 0, none⟩ = some (.string X) := fun w' hB =>
                    ⟨hB, (hPN w' hB).1.box.cell 0 rfl, (hPN w' hB).1.box.cell 1 rfl, (hPN w' hB).1.box.cell 2 rfl, (hPN w' hB).2.cell 0 rfl⟩
                  have hpa := fun w' (hB : Below wc.heap.size wc w') => parAt_of (OwnG.row encPar_len (hPN w' hB).1.own)
                  clear hgv hgb
                  go_wp2_with fail
                  go_region_held3 (fun w' => Below wc.heap.size wc w' ∧ w'.cell? ⟨q, 0, none⟩ = some (.string sch) ∧ w'.cell? ⟨q, 1, none⟩ = some (.string ⟨#[]⟩) ∧ w'.cell? ⟨q, 2, none⟩ = some (.slice a ps.length cap) ∧ w'.cell? ⟨p0, 0, none⟩ = some (.string X))
                    (first | (exact hmk _ (Below.refl _ _).drew) | (go_split_ands; exact hmk _ ((by assumption : Below wc.heap.size wc _).then (Nat.le_refl _) (by assumption))))
                    (first | (go_at_call 40; go_split_ands; refine (hga _ (hpa _ (by assumption))).mono ?_; rintro e w9 ⟨rfl, hB9⟩))
                  go_split_ands
                  have hBw : Below wc.heap.size wc w9 := by assumption
                  obtain ⟨hP9, hN9⟩ := hPN w9 hBw
                  have hP9' := Lib.hid hP9
                  have hN9' := Lib.hid hN9
                  clear hPN hmk hpa hga hPv hN hP9 hN9 hBw
                  cases gb
                  · have hsm2 := Lib.hid (hsm.out.trans (if_neg (by rw [← hag.out]; simp)))
                    have q2 := hP9'.out.box.cell 2 rfl
                    by_cases h16 : ps.length = 16
                    · have hr := Lib.hid (show res = .inl (4, kk) from hrs'.out.trans (by rw [go_inl (hsm2.out.trans (if_pos h16))]; rfl))
                      have d16 : ((ps.length : Int) == 16) = true := by rw [h16]; rfl
                      clear h16 hsm hsm2
                      go_upto_if 145 with (fail)
                      clear q2
                      have g0 := hP9'.out.flt.cell 0 rfl
                      have g1 := hP9'.out.flt.cell 1 rfl
                      have v0 := hP9'.out.flt.free 0
                      have v1 := hP9'.out.flt.free 1
                      have hOn := Lib.hid ((hP9'.out.only.set (p := ⟨w.heap.size, 0, none⟩) (.inl (.inr (Nat.le_of_lt hqf))) (.int .i64 4)).set (p := ⟨w.heap.size, 1, none⟩) (.inl (.inr (Nat.le_of_lt hqf))) (.int .i64 (kk : Int)))
                      go_upto_region 33 with (fail)
                      (repeat (first | go_values | go_skip | go_guarded | go_step | go_upon))
                      obtain ⟨y0, y1⟩ := set_two (.int .i64 4) (.int .i64 (kk : Int)) g0 g1
                      (try simp only [Exit.inBlock, Exit.then])
                      refine bodyPost_ret (v := .agg #[.int .i64 4, .int .i64 (kk : Int)]) (by simp [results, Tryd.results19, go_sem, y0, y1]; try rfl) rfl ?_
                      exact ⟨hOn.out, by rw [hr.out]⟩
                    · have hsm3 := Lib.hid (hsm2.out.trans (if_neg h16))
                      have d16 : ((ps.length : Int) == 16) = false := beq_eq_false_iff_ne.2 (by omega)
                      have hl1 : ps.length + 1 ≤ maxLen := by unfold maxLen; omega
                      have hl2 : (ps.length + 1) * 32 ≤ 140737488355328 := by omega
                      have hpl2 : ps.length + 1 ≤ 16 := by omega
                      clear hsm hsm2 h16
                      go_upto_region 34 with (fail)
                      go_cut [12] (fun v12 wx => v12 = .int .i64 (kk : Int) ∧ ∃ (pv6 : Value), Hid (PR w c q w.heap.size s sch ⟨#[]⟩ pv6 (ps ++ [(X, V)]) k4 wx))
                      case first =>
                        have n0 := hN9'.out.cell 0 rfl
                        have n1 := hN9'.out.cell 1 rfl
                        have hPd := Lib.hid (hP9'.out.later hcq (Below.refl w9.heap.size w9).drew)
                        have hbs : q + 1 ≤ w9.drew.heap.size := hPd.out.box.lt
                        have hne : ∀ i, i ≤ q → (Value.slice a ps.length cap).ownBlock ≠ some i := fun i hi e => by have := (own_lt hPd.out.own e).1; omega
                        have hnf : (Value.slice a ps.length cap).ownBlock ≠ some w.heap.size := fun e => own_off hPd.out.own hPd.out.flt (by decide) e rfl
                        have q2a : (w9.alloc (Obj.cells #[.string X, .string V] 69)).cell? ⟨q, 2, none⟩ = some (.slice a ps.length cap) := (hP9'.out.box.alloc _).cell 2 rfl
                        go_region_law ((first
                          | (refine step_append_one infoPar Tryd.underlying33 (by rfl) (by decide) encPar_len (by rfl) _ _ (by rfl) w9.drew (q + 1) _ ps (by rfl) hPd.out.own (X, V) (encPar_one _) _ (by rfl) _ (by rfl) (by rfl) hl1 hl2 hbs ?_; intro v6 w6 hO6 hG6; obtain ⟨a6, c6, hv6, _⟩ := OwnG.shape encPar_len hO6; generalize (ps ++ [(X, V)]).length = n6 at hv6; subst hv6; have hB6 := (hPd.out.box.alloc (.cells #[.string X, .string V] 69)).grown hG6 (hne q (Nat.le_refl _)); have q6 := hB6.cell 2 rfl; have f6 := hB6.free 2)
                          | fail))
                        all_goals
                          go_wp2
                          go_meet
                          refine ⟨rfl, .slice a6 n6 c6, Lib.hid ⟨?_, ?_, by simpa using hB6.set 2 (.slice a6 n6 c6), Only.own (Only.set (S := fun i => i = q) (Only.refl _ _) (.inl rfl) _) hO6 (fun g hg e => by have := (own_lt hO6 hg).1; omega), ?_⟩⟩
                          · exact (hPd.out.only.append hG6 (fun i e => .inl (.inr (by have := (own_lt hPd.out.own e).1; omega)))).set (.inl (.inr (Nat.le_refl _))) _
                          · exact Blk.far (Blk.grown (Blk.alloc hPd.out.cur _) hG6 (hne c (by omega))) _ _ (by simp; omega)
                          · exact Blk.far (Blk.grown (Blk.alloc hPd.out.flt _) hG6 hnf) _ _ (by simp; omega)
                      case rest =>
                        obtain ⟨rfl, pv6, hP6⟩ := hcut
                        clear hP9' hN9' q2
                        have hpd : Hid (paramAt s.data.toList kk (pdat ps) = .inr (k4, pdat (ps ++ [(X, V)]))) := Lib.hid (hsm3.out.trans (by rw [pdat_snoc]))
                        have hz6 : Hid (∀ p ∈ ps ++ [(X, V)], p.1.size ≤ 1000000 ∧ p.2.size ≤ 1000000) := Lib.hid (by
                          intro p hp
                          rcases List.mem_append.1 hp with hp | hp
                          · exact hzh.out p hp
                          · cases List.mem_singleton.1 hp
                            exact ⟨hXs, hVs⟩)
                        have hl6 : (ps ++ [(X, V)]).length ≤ 16 := by simpa using hpl2
                        obtain ⟨ps6, hps6⟩ : ∃ x, x = ps ++ [(X, V)] := ⟨_, rfl⟩
                        rw [← hps6] at hP6 hpd hz6 hl6
                        clear hps6 hsm3
                        have h7 := refBlanks wc c s k4 hP6.out.cur hs' hk4
                        have hle5 := blanksN_le s k4 hk4
                        obtain ⟨j5, hj5⟩ : ∃ j5, blAt s.data.toList k4 = j5 := ⟨_, rfl⟩
                        have hj52 : k4 + blanksN s k4 = j5 := hj5
                        rw [hj52] at h7 hle5
                        have hst := fun w' h => refStops w' c s j5 h hle5
                        have hj5' := Lib.hid hj5
                        clear hj5
                        cases hs5 : stopB s.data.toList j5
                        · rw [hs5] at hst
                          have hr := Lib.hid (show res = .inl (3, j5) from hrs'.out.trans (by rw [go_stuck hpd.out (by rw [hj5'.out]; exact hs5), hj5'.out]; rfl))
                          clear hs5
                          go_wp2_with fail
                          refine h7.mono ?_
                          rintro e wd ⟨rfl, hCd, hGd⟩
                          have hPd := Lib.hid (hP6.out.turn hcq hqf hCd hGd)
                          clear h7 hCd hGd
                          go_wp2_with fail
                          refine (hst _ hPd.out.cur).mono ?_
                          rintro e we ⟨rfl, nq2, rfl⟩
                          have hPe := Lib.hid (hPd.out.later hcq (below_drewN (Below.refl _ _) nq2))
                          have c1 := hPe.out.cur.c1
                          generalize wd.drewN nq2 = we at hPe c1 ⊢
                          clear hst
                          have g0 := hPe.out.flt.cell 0 rfl
                          have g1 := hPe.out.flt.cell 1 rfl
                          have v0 := hPe.out.flt.free 0
                          have v1 := hPe.out.flt.free 1
                          have hOn := Lib.hid ((hPe.out.only.set (p := ⟨w.heap.size, 0, none⟩) (.inl (.inr (Nat.le_of_lt hqf))) (.int .i64 3)).set (p := ⟨w.heap.size, 1, none⟩) (.inl (.inr (Nat.le_of_lt hqf))) (.int .i64 (j5 : Int)))
                          go_upto_region 37 with (fail)
                          (repeat (first | go_values | go_skip | go_guarded | go_step | go_upon))
                          obtain ⟨y0, y1⟩ := set_two (.int .i64 3) (.int .i64 (j5 : Int)) g0 g1
                          (try simp only [Exit.inBlock, Exit.then])
                          refine bodyPost_ret (v := .agg #[.int .i64 3, .int .i64 (j5 : Int)]) (by simp [results, Tryd.results19, go_sem, y0, y1]; try rfl) rfl ?_
                          exact ⟨hOn.out, by rw [hr.out]⟩
                        · rw [hs5] at hst
                          have hs5' := Lib.hid hs5
                          have hgp := fun w' h => refGaps w' c s j5 h hs' hle5
                          obtain ⟨j6, hj6⟩ : ∃ j6, gapAt s.data.toList j5 = j6 := ⟨_, rfl⟩
                          have hj6s : j6 ≤ s.size := by
                            have := gapAt_le s.data.toList j5 (by rw [← sz_len]; exact hle5)
                            rw [hj6, ← sz_len] at this
                            exact this
                          have hj6k : j5 ≤ j6 := by rw [← hj6]; exact le_gapAt _ _
                          rw [hj6] at hgp
                          have hj6' := Lib.hid hj6
                          -- the copy
                          have hw9 := fun w' p h => refWord w' p s j6 h hs' hj6s
                          have hle7 := wordAt_le s j6 hj6s
                          obtain ⟨X2, hX2⟩ : ∃ X : ByteArray, X = ⟨(wordAt s j6).toArray⟩ := ⟨_, rfl⟩
                          have hX2l : X2.data.toList = wordL s.data.toList j6 := by rw [hX2, mk_toList]; rfl
                          obtain ⟨j7, hj7⟩ : ∃ j, wEnd s.data.toList j6 = j := ⟨_, rfl⟩
                          have hj72 : j6 + (wordAt s j6).length = j7 := hj7
                          rw [hj72] at hle7
                          simp only [hj72, ← hX2] at hw9
                          have hb9 := fun w' p h => refBlanks w' p s j7 h hs' hle7
                          have hle8 := blanksN_le s j7 hle7
                          obtain ⟨j8, hj8⟩ : ∃ j8, blAt s.data.toList j7 = j8 := ⟨_, rfl⟩
                          have hj82 : j7 + blanksN s j7 = j8 := hj8
                          rw [hj82] at hle8
                          simp only [hj82] at hb9
                          have hm9 := fun w' p h => refMarkB w' p s j8 61 h hs' hle8
                          rw [show (((61 : UInt8).toNat : Nat) : Int) = 61 from rfl] at hm9
                          have hnm : Hid (namedB s.data.toList j6 = (!X2.toList.isEmpty && markB s.data.toList j8 61)) := Lib.hid (by
                            unfold namedB
                            rw [hj7, hj8, ← hX2l, Lib.toList_data]
                            congr 1
                            cases X2.data.toList <;> rfl)
                          have hgo : Hid (namedB s.data.toList j6 = true → res = insOf (paramsGo s.data.toList f' j6 (pdat ps6))) := Lib.hid (fun h => hrs'.out.trans (by rw [go_more hpd.out (by rw [hj5'.out]; exact hs5'.out) (by rw [hj5'.out, hj6'.out]; exact h), hj5'.out, hj6'.out]))
                          have hla : Hid (namedB s.data.toList j6 = false → res = .inr (j6, [], pdat ps6)) := Lib.hid (fun h => hrs'.out.trans (by rw [go_last hpd.out (by rw [hj5'.out]; exact hs5'.out) (by rw [hj5'.out, hj6'.out]; exact h), hj5'.out, hj6'.out]; rfl))
                          clear hs5 hj6 hX2 hX2l hj7 hj72 hj8 hj82
                          go_wp2_with fail
                          refine h7.mono ?_
                          rintro e wd ⟨rfl, hCd, hGd⟩
                          have hPd := Lib.hid (hP6.out.turn hcq hqf hCd hGd)
                          clear h7 hCd hGd
                          go_wp2_with fail
                          refine (hst _ hPd.out.cur).mono ?_
                          rintro e we ⟨rfl, nq2, rfl⟩
                          have hPe := Lib.hid (hPd.out.later hcq (below_drewN (Below.refl _ _) nq2))
                          generalize wd.drewN nq2 = we at hPe ⊢
                          clear hst
                          go_wp2_with fail
                          refine (hgp _ hPe.out.cur).mono ?_
                          rintro e wg ⟨rfl, hCg, hGg⟩
                          have hPg := Lib.hid (hPe.out.turn hcq hqf hCg hGg)
                          have c0 := hPg.out.cur.c0
                          have c1 := hPg.out.cur.c1
                          have hqg : q < wg.heap.size := hPg.out.box.lt
                          have hfg : w.heap.size < wg.heap.size := hPg.out.flt.lt
                          have hog : ∀ g, pv6.ownBlock = some g → g ≠ wg.heap.size := fun g hg e => by have := (own_lt hPg.out.own hg).2; omega
                          have hPh := Lib.hid (hPg.out.later hcq ((Below.refl _ _).alloc (Nat.le_refl _) (Obj.cells #[.string s, .int .i64 (j6 : Int)] tR)))
                          have hCh2 : CurAt tR (wg.alloc (Obj.cells #[.string s, .int .i64 (j6 : Int)] tR)) wg.heap.size s j6 := Blk.new _ _ _
                          have hstep := fun (wx w' : World) k' (hPx : Hid (PR w c q w.heap.size s sch ⟨#[]⟩ pv6 ps6 k' wx)) (hG : wx.grownBy w' (some wg.heap.size)) => Lib.hid (hPx.out.step hcq (Only.of_grown (S := fun i => i = wg.heap.size) hG (fun i e => by cases e; rfl)) (fun i e => by subst e; exact ⟨hqg, by omega, hog⟩))
                          clear hgp hCg hGg hP6 hPd hPe
                          go_wp2_with fail
                          refine (hw9 _ _ hCh2).mono ?_
                          rintro e wi ⟨rfl, hCi, hGi⟩
                          have hPi := hstep _ _ _ hPh hGi
                          clear hw9 hCh2 hGi hPh c0 c1
                          go_wp2_with fail
                          refine (hb9 _ _ hCi).mono ?_
                          rintro e wj ⟨rfl, hCj, hGj⟩
                          have hPj := hstep _ _ _ hPi hGj
                          clear hb9 hCi hGj hPi
                          cases hX2e : X2.toList.isEmpty
                          · cases hm2 : markB s.data.toList j8 61
                            · rw [hm2, markTo_no hm2] at hm9
                              have hr := Lib.hid (hla.out (by rw [hnm.out, hX2e, hm2]; rfl))
                              clear hm2 hnm hgo hla
                              go_wp2_with fail
                              refine (hm9 _ _ hCj).mono ?_
                              rintro e wk ⟨rfl, hCk, hGk⟩
                              have hPk := hstep _ _ _ hPj hGk
                              clear hm9 hCj hGk hPj hstep
                              go_wp2_with fail
                              refine (good_is _).mono ?_
                              rintro e wz ⟨rfl, hBz⟩
                              have hPz := Lib.hid (hPk.out.later hcq hBz)
                              have g0 := hPz.out.flt.cell 0 rfl
                              have g1 := hPz.out.flt.cell 1 rfl
                              have v0 := hPz.out.flt.free 0
                              have v1 := hPz.out.flt.free 1
                              have hOn := Lib.hid ((hPz.out.only.set (p := ⟨w.heap.size, 0, none⟩) (.inl (.inr (Nat.le_of_lt hqf))) (.int .i64 0)).set (p := ⟨w.heap.size, 1, none⟩) (.inl (.inr (Nat.le_of_lt hqf))) (.int .i64 (-1)))
                              (try dsimp only)
                              (repeat (first | go_values | go_skip | go_guarded | go_step | go_upon))
                              obtain ⟨y0, y1⟩ := set_two (.int .i64 0) (.int .i64 (-1)) g0 g1
                              (try simp only [Exit.inBlock, Exit.then])
                              refine bodyPost_ret (v := .agg #[.int .i64 0, .int .i64 (-1)]) (by simp [results, Tryd.results19, go_sem, y0, y1]; try rfl) rfl ?_
                              refine ⟨hOn.out, ?_⟩
                              rw [hr.out]
                              refine ⟨rfl, Blk.far (Blk.far hPz.out.cur _ _ (by show w.heap.size ≠ c; omega)) _ _ (by show w.heap.size ≠ c; omega), ⟨#[]⟩, pv6, ps6, rfl, rfl, hl6, Blk.far (Blk.far hPz.out.box _ _ (by show w.heap.size ≠ q; omega)) _ _ (by show w.heap.size ≠ q; omega), ?_⟩
                              exact Only.own ((Only.set (S := fun i => i = w.heap.size) (Only.refl _ _) (.inl rfl) _).set (.inl rfl) _) hPz.out.own (fun g hg => own_off hPz.out.own hPz.out.flt (by decide) hg)
                            · rw [hm2, markTo_yes hm2] at hm9
                              have hr := Lib.hid (hgo.out (by rw [hnm.out, hX2e, hm2]; rfl))
                              clear hm2 hnm hgo hla
                              go_wp2_with fail
                              refine (hm9 _ _ hCj).mono ?_
                              rintro e wk ⟨rfl, hCk, hGk⟩
                              have hPk := hstep _ _ _ hPj hGk
                              clear hm9 hCj hGk hPj hstep hCk
                              go_wp2
                              go_roundg (s.size + 1 - j6)
                              case rel => exact ⟨j6, f', pv6, ps6, hj6s, hl6, Lib.hid rfl, hz6, hPk, Lib.hid ⟨by omega, hr.out⟩⟩
                              case measure => have := hg.out; omega
                          · have hr := Lib.hid (hla.out (by rw [hnm.out, hX2e]; rfl))
                            clear hnm hgo hla hm9 hCj hstep
                            go_wp2_with fail
                            refine (good_is _).mono ?_
                            rintro e wz ⟨rfl, hBz⟩
                            have hPz := Lib.hid (hPj.out.later hcq hBz)
                            have g0 := hPz.out.flt.cell 0 rfl
                            have g1 := hPz.out.flt.cell 1 rfl
                            have v0 := hPz.out.flt.free 0
                            have v1 := hPz.out.flt.free 1
                            have hOn := Lib.hid ((hPz.out.only.set (p := ⟨w.heap.size, 0, none⟩) (.inl (.inr (Nat.le_of_lt hqf))) (.int .i64 0)).set (p := ⟨w.heap.size, 1, none⟩) (.inl (.inr (Nat.le_of_lt hqf))) (.int .i64 (-1)))
                            (try dsimp only)
                            (repeat (first | go_values | go_skip | go_guarded | go_step | go_upon))
                            obtain ⟨y0, y1⟩ := set_two (.int .i64 0) (.int .i64 (-1)) g0 g1
                            (try simp only [Exit.inBlock, Exit.then])
                            refine bodyPost_ret (v := .agg #[.int .i64 0, .int .i64 (-1)]) (by simp [results, Tryd.results19, go_sem, y0, y1]; try rfl) rfl ?_
                            refine ⟨hOn.out, ?_⟩
                            rw [hr.out]
                            refine ⟨rfl, Blk.far (Blk.far hPz.out.cur _ _ (by show w.heap.size ≠ c; omega)) _ _ (by show w.heap.size ≠ c; omega), ⟨#[]⟩, pv6, ps6, rfl, rfl, hl6, Blk.far (Blk.far hPz.out.box _ _ (by show w.heap.size ≠ q; omega)) _ _ (by show w.heap.size ≠ q; omega), ?_⟩
                            exact Only.own ((Only.set (S := fun i => i = w.heap.size) (Only.refl _ _) (.inl rfl) _).set (.inl rfl) _) hPz.out.own (fun g hg => own_off hPz.out.own hPz.out.flt (by decide) hg)
                  · have hr := Lib.hid (show res = .inl (9, kk) from hrs'.out.trans (by rw [go_inl (hsm.out.trans (if_pos hag.out.symm))]; rfl))
                    clear hsm
                    have g0 := hP9'.out.flt.cell 0 rfl
                    have g1 := hP9'.out.flt.cell 1 rfl
                    have v0 := hP9'.out.flt.free 0
                    have v1 := hP9'.out.flt.free 1
                    have hOn := Lib.hid ((hP9'.out.only.set (p := ⟨w.heap.size, 0, none⟩) (.inl (.inr (Nat.le_of_lt hqf))) (.int .i64 9)).set (p := ⟨w.heap.size, 1, none⟩) (.inl (.inr (Nat.le_of_lt hqf))) (.int .i64 (kk : Int)))
                    go_upto_region 31 with (fail)
                    (repeat (first | go_values | go_skip | go_guarded | go_step | go_upon))
                    obtain ⟨y0, y1⟩ := set_two (.int .i64 9) (.int .i64 (kk : Int)) g0 g1
                    (try simp only [Exit.inBlock, Exit.then])
                    refine bodyPost_ret (v := .agg #[.int .i64 9, .int .i64 (kk : Int)]) (by simp [results, Tryd.results19, go_sem, y0, y1]; try rfl) rfl ?_
                    exact ⟨hOn.out, by rw [hr.out]⟩
            · have hr := Lib.hid (hbad.out (.inl (by rw [Lib.toList_data] at hXe; simpa using hXe)))
              have c1 := hP4.out.cur.c1
              clear hbad hnone hsome
              go_upto_if 101 with (fail)
              clear n0
              have g0 := hP4.out.flt.cell 0 rfl
              have g1 := hP4.out.flt.cell 1 rfl
              have v0 := hP4.out.flt.free 0
              have v1 := hP4.out.flt.free 1
              have hOn := Lib.hid ((hP4.out.only.set (p := ⟨w.heap.size, 0, none⟩) (.inl (.inr (Nat.le_of_lt hqf))) (.int .i64 3)).set (p := ⟨w.heap.size, 1, none⟩) (.inl (.inr (Nat.le_of_lt hqf))) (.int .i64 (j2 : Int)))
              go_upto_region 22 with (fail)
              (repeat (first | go_values | go_skip | go_guarded | go_step | go_upon))
              obtain ⟨y0, y1⟩ := set_two (.int .i64 3) (.int .i64 (j2 : Int)) g0 g1
              (try simp only [Exit.inBlock, Exit.then])
              refine bodyPost_ret (v := .agg #[.int .i64 3, .int .i64 (j2 : Int)]) (by simp [results, Tryd.results19, go_sem, y0, y1]; try rfl) rfl ?_
              exact ⟨hOn.out, by rw [hr.out]⟩
        · have hln := Lib.hid (hlr.out.trans (if_pos hb.out.symm))
          have hr := Lib.hid (hin.out _ _ hln.out)
          have u1 := hP4.out.box.cell 1 rfl
          have x1 := hP4.out.box.free 1
          have c1 := hP4.out.cur.c1
          have f1 := hP4.out.cur.f1
          have hn1 : ¬c = q := by omega
          have hn2 : ¬q = c := by omega
          obtain ⟨j3, hj3⟩ : ∃ j3, k + en = j3 := ⟨_, rfl⟩
          rw [hj3] at hr
          have k1 : (k : Int) + (en : Int) = (j3 : Int) := by omega
          have k2 : IntKind.i64.wrap ((k : Int) + (en : Int)) = (j3 : Int) := by rw [IntKind.wrap_i64]; omega
          have k3 : IntKind.i64.wrap (j3 : Int) = (j3 : Int) := by rw [IntKind.wrap_i64]; omega
          have hP5 := Lib.hid ((hP4.out.name hcq hqf Wt).move hcq hqf j3)
          clear hb hlr hin hip hln hj3
          go_wp2_with fail
          refine (good_is _).mono ?_
          rintro e wz ⟨rfl, hBz⟩
          have hPz := Lib.hid (hP5.out.later hcq hBz)
          have g0 := hPz.out.flt.cell 0 rfl
          have g1 := hPz.out.flt.cell 1 rfl
          have v0 := hPz.out.flt.free 0
          have v1 := hPz.out.flt.free 1
          have hOn := Lib.hid ((hPz.out.only.set (p := ⟨w.heap.size, 0, none⟩) (.inl (.inr (Nat.le_of_lt hqf))) (.int .i64 0)).set (p := ⟨w.heap.size, 1, none⟩) (.inl (.inr (Nat.le_of_lt hqf))) (.int .i64 (-1)))
          (try dsimp only)
          (repeat (first | go_values | go_skip | go_guarded | go_step | go_upon))
          obtain ⟨y0, y1⟩ := set_two (.int .i64 0) (.int .i64 (-1)) g0 g1
          (try simp only [Exit.inBlock, Exit.then])
          refine bodyPost_ret (v := .agg #[.int .i64 0, .int .i64 (-1)]) (by simp [results, Tryd.results19, go_sem, y0, y1]; try rfl) rfl ?_
          refine ⟨hOn.out, ?_⟩
          rw [hr.out]
          refine ⟨rfl, Blk.far (Blk.far hPz.out.cur _ _ (by show w.heap.size ≠ c; omega)) _ _ (by show w.heap.size ≠ c; omega), Wt, (.slice none 0 0), [], rfl, rfl, (Nat.zero_le _), Blk.far (Blk.far hPz.out.box _ _ (by show w.heap.size ≠ q; omega)) _ _ (by show w.heap.size ≠ q; omega), ?_⟩
          exact Only.own ((Only.set (S := fun i => i = w.heap.size) (Only.refl _ _) (.inl rfl) _).set (.inl rfl) _) hPz.out.own (fun g hg => own_off hPz.out.own hPz.out.flt (by decide) hg)
end Go.Proofs.YthmkilglidfdiaaDoor
