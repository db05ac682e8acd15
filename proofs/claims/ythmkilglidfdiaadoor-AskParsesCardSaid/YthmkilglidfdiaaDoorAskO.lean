/- ask's reader: one: a challenge. -/
import Derived.Test.YthmkilglidfdiaaDoorAskT
import Derived.Test.YthmkilglidfdiaaDoorAskG
import Derived.WalkMore
namespace Go.Proofs.YthmkilglidfdiaaDoor
open Go.RowKit
def OnePost (w : World) (b c base : Nat) (s : ByteArray) (xs : List PC) (r : Res (Nat × PChal)) (e : Ending) (w' : World) : Prop :=
  Only (fun i => i = c ∨ i = b ∨ base ≤ i) w w' ∧ match r with
  | .inl x => ∃ v, e = .returned v ∧ ErrAt w' v x.1 x.2
  | .inr x => e = .returned .nilIface ∧ CurAt tC w' c s x.1 ∧ ∃ lv y, pcd y = x.2 ∧ Blk w' b #[.pointer (some ⟨c, 0, none⟩), .string s, lv] tRd ∧ Chals w' base lv (xs ++ [y])
section
variable {w w' : World} {b c base : Nat} {s : ByteArray} {xs : List PC} {r : Res (Nat × PChal)}
theorem OnePost.bad {v : Value} {n : Int} {m : Nat} (h : r = .inl (n, m)) (ho : Only (fun i => i = c ∨ i = b ∨ base ≤ i) w w') (he : ErrAt w' v n m) : OnePost w b c base s xs r (.returned v) w' := by
  subst h; exact ⟨ho, v, rfl, he⟩
theorem OnePost.good {k : Nat} {p : PChal} {lv : Value} {y : PC} (h : r = .inr (k, p)) (ho : Only (fun i => i = c ∨ i = b ∨ base ≤ i) w w') (hC : CurAt tC w' c s k) (hp : pcd y = p) (hb : Blk w' b #[.pointer (some ⟨c, 0, none⟩), .string s, lv] tRd)
    (hX : Chals w' base lv (xs ++ [y])) : OnePost w b c base s xs r (.returned .nilIface) w' := by
  subst h; exact ⟨ho, rfl, hC, lv, y, hp, hb, hX⟩
end
theorem one_empty {l : List UInt8} {k : Nat} (n : Nat) (h : wordL l k = []) : oneAt l k n = .inl (3, k) ∧ wEnd l k = k := by
  constructor
  · unfold oneAt; rw [if_pos h]
  · unfold wEnd; rw [h]; rfl
theorem one_many {l : List UInt8} {k : Nat} (h : wordL l k ≠ []) : oneAt l k 8 = .inl (4, k) := by
  unfold oneAt; rw [if_neg h, if_pos rfl]
theorem one_stop {l : List UInt8} {k n : Nat} (h : wordL l k ≠ []) (hn : n ≠ 8) (hs : stopB l (blAt l (wEnd l k)) = true) : oneAt l k n = .inr (blAt l (wEnd l k), ⟨wordL l k, [], []⟩) := by
  unfold oneAt; rw [if_neg h, if_neg hn]; simp only; rw [if_pos hs]
theorem one_tight {l : List UInt8} {k n : Nat} (h : wordL l k ≠ []) (hn : n ≠ 8) (hs : stopB l (blAt l (wEnd l k)) = false) (hb : blAt l (wEnd l k) = wEnd l k) : oneAt l k n = .inl (3, blAt l (wEnd l k)) := by
  unfold oneAt; rw [if_neg h, if_neg hn]; simp only; rw [if_neg (by simp [hs]), if_pos hb]
theorem one_lone {l : List UInt8} {k n : Nat} {x : List UInt8 × Nat} (h : wordL l k ≠ []) (hn : n ≠ 8) (hs : stopB l (blAt l (wEnd l k)) = false) (hb : blAt l (wEnd l k) ≠ wEnd l k) (hl : loneAt l (blAt l (wEnd l k)) = some x) : oneAt l k n = .inr (x.2, ⟨wordL l k, x.1, []⟩) := by
  unfold oneAt; rw [if_neg h, if_neg hn]; simp only; rw [if_neg (by simp [hs]), if_neg hb, hl]
/-- the challenge's end, out of its parameters -/
def oneOf (nm : List UInt8) (r : Res (Nat × List PPar)) : Res (Nat × PChal) := match r with
  | .inl e => .inl e
  | .inr (e, ps) => .inr (e, ⟨nm, [], ps⟩)
theorem one_params {l : List UInt8} {k n : Nat} (h : wordL l k ≠ []) (hn : n ≠ 8) (hs : stopB l (blAt l (wEnd l k)) = false) (hb : blAt l (wEnd l k) ≠ wEnd l k) (hl : loneAt l (blAt l (wEnd l k)) = none) : oneAt l k n = oneOf (wordL l k) (paramsGo l (l.length + 1 - blAt l (wEnd l k)) (blAt l (wEnd l k)) []) := by
  unfold oneAt oneOf; rw [if_neg h, if_neg hn]; simp only; rw [if_neg (by simp [hs]), if_neg hb, hl]; rfl
theorem go_inl {l : List UInt8} {f k : Nat} {ps : List PPar} {e : Int × Nat} (h : paramAt l k ps = .inl e) : paramsGo l (f + 1) k ps = .inl e := by unfold paramsGo; rw [h]
theorem go_stuck {l : List UInt8} {f k k4 : Nat} {ps ps' : List PPar} (h : paramAt l k ps = .inr (k4, ps')) (hs : stopB l (blAt l k4) = false) : paramsGo l (f + 1) k ps = .inl (3, blAt l k4) := by
  unfold paramsGo; rw [h]; simp only; rw [if_pos hs]
theorem go_more {l : List UInt8} {f k k4 : Nat} {ps ps' : List PPar} (h : paramAt l k ps = .inr (k4, ps')) (hs : stopB l (blAt l k4) = true) (hn : namedB l (gapAt l (blAt l k4)) = true) : paramsGo l (f + 1) k ps = paramsGo l f (gapAt l (blAt l k4)) ps' := by
  rw [paramsGo, h]; simp only; rw [if_neg (by simp [hs]), if_pos hn]
theorem go_last {l : List UInt8} {f k k4 : Nat} {ps ps' : List PPar} (h : paramAt l k ps = .inr (k4, ps')) (hs : stopB l (blAt l k4) = true) (hn : namedB l (gapAt l (blAt l k4)) = false) : paramsGo l (f + 1) k ps = .inr (gapAt l (blAt l k4), ps') := by
  rw [paramsGo, h]; simp only; rw [if_neg (by simp [hs]), if_neg (by simp [hn])]
theorem PS.name {w wx : World} {b c q : Nat} {s sch tok T : ByteArray} {lv pv : Value} {ps : List (ByteArray × ByteArray)} {k : Nat} (h : PS w b c q s sch tok lv pv ps k wx) (hbq : b < q) (hcq : c < q) : PS w b c q s sch T lv pv ps k (wx.setCell ⟨q, 1, none⟩ (.string T)) :=
  have ho : Only (fun i => i = q) wx (wx.setCell ⟨q, 1, none⟩ (.string T)) := Only.set (S := fun i => i = q) (Only.refl _ _) (.inl rfl) _
  ⟨h.only.trans (ho.mono (fun i e => .inr (Nat.le_of_eq e.symm))), ho.blk h.rd (by omega), ho.blk h.cur (by omega), by simpa using h.box.set 1 (.string T), ho.own h.own (fun g hg e => by have := own_lt h.own hg; omega)⟩
set_option maxRecDepth 100000 in
set_option maxHeartbeats 4000000 in
theorem askOne (w : World) (b c base : Nat) (s : ByteArray) (k : Nat) (lv : Value) (xs : List PC) (hR : Blk w b #[.pointer (some ⟨c, 0, none⟩), .string s, lv] tRd) (hC : CurAt tC w c s k) (hX : Chals w base lv xs)
    (hbc : c ≠ b) (hbb : b < base) (hcb : c < base) (hbase : base ≤ w.heap.size) (hl : xs.length ≤ 8) (hs : s.size ≤ 1000000) (hk : k ≤ s.size) :
    Calls Tryd.prog 24 #[.pointer (some ⟨b, 0, none⟩)] w (OnePost w b c base s xs (oneAt s.data.toList k xs.length)) := by
  have hs' : s.size ≤ 1099511627776 := by omega
  obtain ⟨la, lcap, rfl, _, _, _, _⟩ := OwnG.shape encPC_len hX.row
  have h1 := tokenAt w c s k hC
  have h2 := tokenWord w c s k hC hs' hk
  have hle := wordAt_le s k hk
  obtain ⟨X, hX0⟩ : ∃ X : ByteArray, X = ⟨(wordAt s k).toArray⟩ := ⟨_, rfl⟩
  have hXl : X.data.toList = wordL s.data.toList k := by rw [hX0, mk_toList]; rfl
  obtain ⟨j, hj⟩ : ∃ j, wEnd s.data.toList k = j := ⟨_, rfl⟩
  have hj2 : k + (wordAt s k).length = j := hj
  rw [hj2] at h2 hle
  rw [← hX0] at h2
  obtain ⟨nb, hnb⟩ : ∃ nb, blanksN s j = nb := ⟨_, rfl⟩
  have h3 := fun w' h => tokenBlanks w' c s j h hs' hle
  have hle2 := blanksN_le s j hle
  obtain ⟨j2, hj3⟩ : ∃ j2, blAt s.data.toList j = j2 := ⟨_, rfl⟩
  have hj4 : j + blanksN s j = j2 := hj3
  have hid2 : Hid (blAt s.data.toList j2 = j2) := Lib.hid (by rw [← hj3]; exact blAt_idem _ _)
  rw [hj4] at h3 hle2
  rw [hnb] at hj4 h3
  have o1 := Lib.hid (fun h => one_empty (l := s.data.toList) (k := k) xs.length h)
  have o2 := Lib.hid (fun h => one_many (l := s.data.toList) (k := k) h)
  have o3 := Lib.hid (fun h hn hs => one_stop (l := s.data.toList) (k := k) (n := xs.length) h hn hs)
  have o4 := Lib.hid (fun h hn hs hb => one_tight (l := s.data.toList) (k := k) (n := xs.length) h hn hs hb)
  have o5 := Lib.hid (fun x h hn hs hb hl => one_lone (l := s.data.toList) (k := k) (n := xs.length) (x := x) h hn hs hb hl)
  have o6 := Lib.hid (fun h hn hs hb hl => one_params (l := s.data.toList) (k := k) (n := xs.length) h hn hs hb hl)
  rw [hj, ← hXl] at o1
  rw [← hXl] at o2
  rw [hj, hj3, ← hXl] at o3 o4 o5 o6
  have hXn0 : X.toList.isEmpty = false → X.data.toList ≠ [] := by intro h e; rw [Lib.toList_data, e] at h; cases h
  have hXn := Lib.hid hXn0
  have hRh := Lib.hid hR
  have hCh := Lib.hid hC
  have hXh := Lib.hid hX
  have hX := hXh
  have c0 := hR.cell 0 rfl
  clear hR hj hj2 hj3 hC hXl hX0 hnb hXn0 hXh
  obtain ⟨res, hres⟩ : ∃ res, oneAt s.data.toList k xs.length = res := ⟨_, rfl⟩
  have hres' := Lib.hid hres
  rw [hres]
  clear hres
  go_enter Tryd.func24, Tryd.ntmps24
  go_wp2_with fail
  refine h1.mono ?_
  rintro e w1 ⟨rfl, rfl⟩
  go_wp2_with fail
  refine h2.mono ?_
  rintro e w2 ⟨rfl, hC2, hG2⟩
  have hsz0 := hG2.size
  have hR2 := hRh.out.grown hG2 (by intro e; cases e; exact hbc rfl)
  obtain ⟨q, hq⟩ : ∃ q, q = w2.heap.size := ⟨_, rfl⟩
  have hbq : b < q := by omega
  have hcq : c < q := by omega
  have hbaq : base ≤ q := by omega
  have hqw : w1.heap.size ≤ q := by omega
  have hB3 := (Below.refl w2.heap.size w2).alloc (Nat.le_refl _) (Obj.cells #[.string X, .string ⟨#[]⟩, .slice none 0 0] tCh)
  have hP3 : Hid (PS w1 b c q s X ⟨#[]⟩ (.slice la xs.length lcap) (.slice none 0 0) [] j (w2.alloc (Obj.cells #[.string X, .string ⟨#[]⟩, .slice none 0 0] tCh))) := Lib.hid
    ⟨((Only.of_grown hG2 (fun i e => by cases e; exact .inl rfl)).alloc _), hR2.later hB3, hC2.later hB3, by rw [hq]; exact Blk.new _ _ _, OwnG.nil _ _⟩
  have cc := hP3.out.rd.cell 0 rfl
  clear h1 h2 hG2 hC2 hR2 hB3 c0
  go_upto_if 22 with (fail)
  obtain ⟨w3, hw3⟩ : ∃ w3, w3 = w2.alloc (Obj.cells #[.string X, .string ⟨#[]⟩, .slice none 0 0] 35) := ⟨_, rfl⟩
  have hP3' : Hid (PS w1 b c q s X ⟨#[]⟩ (.slice la xs.length lcap) (.slice none 0 0) [] j w3) := Lib.hid (by rw [hw3]; exact hP3.out)
  have cc' : w3.cell? ⟨b, 0, none⟩ = some (.pointer (some ⟨c, 0, none⟩)) := by rw [hw3]; exact cc
  rw [← hq, ← hw3]
  clear hP3 cc hq hw3
  have hS : ∀ i, (i = c ∨ q ≤ i) → (i = c ∨ i = b ∨ base ≤ i) := fun i e => e.elim .inl (fun e => .inr (.inr (by omega)))
  have hSh := Lib.hid hS
  have hl1 : xs.length + 1 ≤ maxLen := by unfold maxLen; omega
  have hl2 : (xs.length + 1) * 56 ≤ 140737488355328 := by omega
  have hbase' := Lib.hid hbase
  clear hS
  cases hXe : X.toList.isEmpty
  · have hXne := Lib.hid (hXn.out hXe)
    have r2 := hP3'.out.rd.cell 2 rfl
    by_cases h8 : xs.length = 8
    · have d8 : ((xs.length : Int) == 8) = true := by rw [h8]; rfl
      have hr := Lib.hid (hres'.out.symm.trans (show oneAt s.data.toList k xs.length = .inl (4, k) by rw [h8]; exact o2.out hXne.out))
      clear h8
      go_wp2
      go_ret
      exact OnePost.bad hr.out ((hP3'.out.only.mono hSh.out).alloc _) ⟨_, rfl, new_cell _ _ _ _ 0 rfl rfl, new_cell _ _ _ _ 1 rfl rfl⟩
    · have d8 : ((xs.length : Int) == 8) = false := beq_eq_false_iff_ne.2 (by omega)
      have h8' := Lib.hid h8
      clear h8
      go_wp2_with fail
      refine (h3 _ hP3'.out.cur).mono ?_
      rintro e w4 ⟨rfl, hC4, hG4⟩
      have hP4 := Lib.hid (hP3'.out.turn hbc hcq hC4 hG4)
      have hO := askOver w4 b c s j2 (.slice la xs.length lcap) hP4.out.rd hP4.out.cur hbc hs' hle2
      rw [hid2.out] at hO
      clear hC4 hG4 h3 r2 cc'
      cases hst : stopB s.data.toList j2
      · rw [hst] at hO
        by_cases h0 : 0 < nb
        · have d0 : decide (0 < nb) = true := decide_eq_true h0
          have hne0 : j2 ≠ j := by omega
          go_wp2_with fail
          refine hO.mono ?_
          rintro e w5 ⟨rfl, hC5, hG5⟩
          have hP5 := Lib.hid (hP4.out.turn hbc hcq hC5 hG5)
          have hSi := askSingle w5 b c s j2 (.slice la xs.length lcap) hP5.out.rd hP5.out.cur hbc hs' hle2
          unfold LonePost at hSi
          clear hO hC5 hG5
          cases hlo : loneAt s.data.toList j2 with
          | some z =>
            obtain ⟨t, e5⟩ := z
            have hr := Lib.hid (hres'.out.symm.trans (o5.out _ hXne.out h8'.out hst hne0 hlo))
            simp only [hlo] at hSi
            obtain ⟨T, hT⟩ : ∃ T : ByteArray, T = ⟨t.toArray⟩ := ⟨_, rfl⟩
            have hTl := Lib.hid (show T.data.toList = t by rw [hT, mk_toList])
            rw [← hT] at hSi
            clear hT hlo hst
            go_wp2_with fail
            refine hSi.mono ?_
            rintro e w6 ⟨rfl, hC6, hG6⟩
            have hP6 := Lib.hid (hP5.out.turn hbc hcq hC6 hG6)
            have u1 := hP6.out.box.cell 1 rfl
            have v1 := hP6.out.box.free 1
            have hP7 := Lib.hid (hP6.out.name (T := T) hbq hcq)
            obtain ⟨w7, hw7⟩ : ∃ w7, w7 = w6.setCell ⟨q, 1, none⟩ (.string T) := ⟨_, rfl⟩
            rw [← hw7] at hP7
            clear hSi hC6 hG6
            go_wp2_with fail
            (try go_step3)
            (try go_wp2_with fail)
            rw [← hw7]
            clear hw7 u1 v1
            have hS := hSh.out
            have hbase := hbase'.out
            have hXr := Lib.hid (hX.out.keep hP7.out.only (fun i e => by rcases e with e | e <;> omega))
            have r2 := hP7.out.rd.cell 2 rfl
            have o0 := hP7.out.box.cell 0 rfl
            have o1 := hP7.out.box.cell 1 rfl
            have o2 := hP7.out.box.cell 2 rfl
            have hPd := Lib.hid (hP7.out.later hbq hcq (Below.refl w7.heap.size w7).drew)
            have hXd := Lib.hid (hXr.out.later (Below.refl w7.heap.size w7).drew)
            have hbs : base ≤ w7.drew.heap.size := Nat.le_trans hbase hP7.out.only.size
            have hne : ∀ i, i < base → (Value.slice la xs.length lcap).ownBlock ≠ some i := fun i hi e => by have := own_lt hXd.out.row e; omega
            have r2a : (w7.alloc (Obj.cells #[.string X, .string T, .slice none 0 0] 35)).cell? ⟨b, 2, none⟩ = some (.slice la xs.length lcap) :=
              (hP7.out.rd.alloc (Obj.cells #[.string X, .string T, .slice none 0 0] 35)).cell 2 rfl
            go_region_law ((first
              | (refine step_append_one infoCh Tryd.underlying22 (by rfl) (by decide) encPC_len (by rfl) _ _ (by rfl) w7.drew base _ xs (by rfl) hXd.out.row ⟨X, T, none, 0, []⟩ (encPC_one _) _ (by rfl) _ (by rfl) (by rfl) hl1 hl2 hbs ?_; intro v6 w6 hO6 hG6; obtain ⟨a6, c6, hv6, _⟩ := OwnG.shape encPC_len hO6; generalize hn6 : (xs ++ [(⟨X, T, none, 0, []⟩ : PC)]).length = n6 at hv6; subst hv6; have hB6 := (hPd.out.rd.alloc (.cells #[.string X, .string T, .slice none 0 0] 35)).grown hG6 (hne b (by omega)); have q6 := hB6.cell 2 rfl; have f6 := hB6.free 2)
              | fail))
            all_goals
              go_wp2
              go_ret
              refine OnePost.good (lv := .slice a6 n6 c6) (y := ⟨X, T, none, 0, []⟩) hr.out ?_ ?_ ?_ (by simpa using hB6.set 2 (.slice a6 n6 c6)) ?_
              · exact ((hPd.out.only.mono hS).append hG6 (fun i e => .inl (.inr (.inr (own_lt hXd.out.row e).1)))).set (.inl (.inr (.inl rfl))) _
              · exact Blk.far (Blk.grown (Blk.alloc hPd.out.cur _) hG6 (hne c (by omega))) _ _ (by simpa using fun e => hbc e.symm)
              · unfold pcd; rw [hTl.out]; rfl
              · exact (Chals.snoc (y := ⟨X, T, none, 0, []⟩) (o := .cells #[.string X, .string T, .slice none 0 0] 35) hXd.out (own_base hPd.out.own (by omega)) (Nat.zero_le _) hG6 hO6).keep (Only.set (S := fun i => i = b) (Only.refl _ _) (.inl rfl) _) (fun i e => .inl (by omega))
          | none =>
            have hr := Lib.hid (hres'.out.symm.trans (o6.out hXne.out h8'.out hst hne0 hlo))
            simp only [hlo] at hSi
            clear hlo hst
            go_wp2_with fail
            refine hSi.mono ?_
            rintro e w6 ⟨rfl, hC6, hG6⟩
            have hP6 := Lib.hid (hP5.out.turn hbc hcq hC6 hG6)
            have u1 := hP6.out.box.cell 1 rfl
            have v1 := hP6.out.box.free 1
            have hP7 := Lib.hid (hP6.out.name (T := ⟨#[]⟩) hbq hcq)
            obtain ⟨w7, hw7⟩ : ∃ w7, w7 = w6.setCell ⟨q, 1, none⟩ (.string ⟨#[]⟩) := ⟨_, rfl⟩
            rw [← hw7] at hP7
            clear hSi hC6 hG6
            go_wp2_with fail
            rw [← hw7]
            clear hw7 u1 v1
            go_loopg [7] (s.size + 2 - j2) (fun g v7 wr => ∃ (m : Bool) (kk : Nat) (pv : Value) (ps : List (ByteArray × ByteArray)), v7 = .bool m ∧ kk ≤ s.size ∧ ps.length ≤ 16 ∧ Hid (∀ p ∈ ps, p.1.size ≤ 1000000 ∧ p.2.size ≤ 1000000) ∧ Hid (PS w1 b c q s X ⟨#[]⟩ (.slice la xs.length lcap) pv ps kk wr) ∧
              Hid ((m = true ∧ g = s.size + 2 - kk ∧ ∃ f, s.size < kk + f ∧ res = oneOf X.data.toList (paramsGo s.data.toList f kk (pdat ps))) ∨ (m = false ∧ g = 0 ∧ res = .inr (kk, ⟨X.data.toList, [], pdat ps⟩))))
            case atStart => exact ⟨true, j2, .slice none 0 0, [], rfl, hle2, Nat.zero_le _, Lib.hid (fun p hp => by simp at hp), hP7, Lib.hid (.inl ⟨rfl, rfl, _, by rw [← sz_len]; omega, hr.out⟩)⟩
            case round =>
              obtain ⟨m, kk, pv, ps, rfl, hkk, hpl, hpz, hPr, hinv⟩ := hrel
              clear hP7 hP6 hP5 hP4 hP3' hr
              cases m
              · have hr : Hid (res = .inr (kk, ⟨X.data.toList, [], pdat ps⟩)) := Lib.hid (by
                  rcases hinv.out with ⟨h, _⟩ | ⟨_, _, h⟩
                  · cases h
                  · exact h)
                obtain ⟨pa, pcap, rfl, _, _, _, _⟩ := OwnG.shape encPar_len hPr.out.own
                have hS := hSh.out
                have hbase := hbase'.out
                clear hinv
                go_wp2_with fail
                (try go_step3)
                (try go_wp2_with fail)
                have hXr := Lib.hid (hX.out.keep hPr.out.only (fun i e => by rcases e with e | e <;> omega))
                have r2 := hPr.out.rd.cell 2 rfl
                have o0 := hPr.out.box.cell 0 rfl
                have o1 := hPr.out.box.cell 1 rfl
                have o2 := hPr.out.box.cell 2 rfl
                have hPd := Lib.hid (hPr.out.later hbq hcq (Below.refl wr.heap.size wr).drew)
                have hXd := Lib.hid (hXr.out.later (Below.refl wr.heap.size wr).drew)
                have hbs : base ≤ wr.drew.heap.size := Nat.le_trans hbase hPr.out.only.size
                have hne : ∀ i, i < base → (Value.slice la xs.length lcap).ownBlock ≠ some i := fun i hi e => by have := own_lt hXd.out.row e; omega
                have r2a : (wr.alloc (Obj.cells #[.string X, .string ⟨#[]⟩, .slice pa ps.length pcap] 35)).cell? ⟨b, 2, none⟩ = some (.slice la xs.length lcap) :=
                  (hPr.out.rd.alloc (Obj.cells #[.string X, .string ⟨#[]⟩, .slice pa ps.length pcap] 35)).cell 2 rfl
                go_region_law ((first
                  | (refine step_append_one infoCh Tryd.underlying22 (by rfl) (by decide) encPC_len (by rfl) _ _ (by rfl) wr.drew base _ xs (by rfl) hXd.out.row ⟨X, ⟨#[]⟩, pa, pcap, ps⟩ (encPC_one _) _ (by rfl) _ (by rfl) (by rfl) hl1 hl2 hbs ?_; intro v6 w6 hO6 hG6; obtain ⟨a6, c6, hv6, _⟩ := OwnG.shape encPC_len hO6; generalize hn6 : (xs ++ [(⟨X, ⟨#[]⟩, pa, pcap, ps⟩ : PC)]).length = n6 at hv6; subst hv6; have hB6 := (hPd.out.rd.alloc (.cells #[.string X, .string ⟨#[]⟩, .slice pa ps.length pcap] 35)).grown hG6 (hne b (by omega)); have q6 := hB6.cell 2 rfl; have f6 := hB6.free 2)
                  | fail))
                all_goals
                  go_wp2
                  go_ret
                  refine OnePost.good (lv := .slice a6 n6 c6) (y := ⟨X, ⟨#[]⟩, pa, pcap, ps⟩) hr.out ?_ ?_ ?_ (by simpa using hB6.set 2 (.slice a6 n6 c6)) ?_
                  · exact ((hPd.out.only.mono hS).append hG6 (fun i e => .inl (.inr (.inr (own_lt hXd.out.row e).1)))).set (.inl (.inr (.inl rfl))) _
                  · exact Blk.far (Blk.grown (Blk.alloc hPd.out.cur _) hG6 (hne c (by omega))) _ _ (by simpa using fun e => hbc e.symm)
                  · rfl
                  · exact (Chals.snoc (y := ⟨X, ⟨#[]⟩, pa, pcap, ps⟩) (o := .cells #[.string X, .string ⟨#[]⟩, .slice pa ps.length pcap] 35) hXd.out (own_base hPd.out.own (by omega)) hpl hG6 hO6).keep (Only.set (S := fun i => i = b) (Only.refl _ _) (.inl rfl) _) (fun i e => .inl (by omega))
              · have hiv : Hid (gk = s.size + 2 - kk ∧ ∃ f, s.size < kk + f ∧ res = oneOf X.data.toList (paramsGo s.data.toList f kk (pdat ps))) := Lib.hid (by
                  rcases hinv.out with ⟨_, h⟩ | ⟨h, _⟩
                  · exact h
                  · cases h)
                clear hinv
                have hpa := askParam wr b c q s kk (.slice la xs.length lcap) X ⟨#[]⟩ pv ps hPr.out.rd hPr.out.cur hPr.out.box hPr.out.own hbc hbq hcq hpz.out hpl hs hkk
                obtain ⟨hgk, f, hf, hrs⟩ := hiv.out
                obtain ⟨f', rfl⟩ : ∃ f', f = f' + 1 := ⟨f - 1, by omega⟩
                cases hp : paramAt s.data.toList kk (pdat ps) with
                | inl z =>
                  obtain ⟨n, m⟩ := z
                  have hr := Lib.hid (show res = .inl (n, m) from hrs.trans (by rw [go_inl hp]; rfl))
                  unfold ParamPost at hpa
                  simp only [hp] at hpa
                  clear hp hrs hiv
                  go_wp2_with fail
                  refine hpa.mono ?_
                  rintro e w9 ⟨hO9, v, rfl, hE⟩
                  obtain ⟨pe, rfl, he0, he1⟩ := hE
                  have hO9' := Lib.hid hO9
                  clear hpa hO9
                  go_wp2
                  go_ret
                  exact OnePost.bad hr.out ((hPr.out.only.trans hO9'.out).mono hSh.out) ⟨pe, rfl, he0, he1⟩
                | inr z =>
                  obtain ⟨k4, psd⟩ := z
                  have hb4 := paramAt_bd (by rw [← sz_len]; exact hkk) (by rw [pdat_len]; exact hpl) hp
                  simp only at hb4
                  rw [← sz_len] at hb4
                  obtain ⟨hb4, hb5, hb6⟩ := hb4
                  unfold ParamPost at hpa
                  simp only [hp] at hpa
                  have hp' := Lib.hid hp
                  have hrs' := Lib.hid hrs
                  obtain ⟨j5, hj5⟩ : ∃ j5, blAt s.data.toList k4 = j5 := ⟨_, rfl⟩
                  have hj5s : j5 ≤ s.size := by
                    have := blAt_le s.data.toList k4 (by rw [← sz_len]; exact hb5)
                    rw [hj5, ← sz_len] at this
                    exact this
                  have hj5k : k4 ≤ j5 := by rw [← hj5]; exact le_blAt _ _
                  obtain ⟨j6, hj6⟩ : ∃ j6, gapAt s.data.toList j5 = j6 := ⟨_, rfl⟩
                  have hj6s : j6 ≤ s.size := by
                    have := gapAt_le s.data.toList j5 (by rw [← sz_len]; exact hj5s)
                    rw [hj6, ← sz_len] at this
                    exact this
                  have hj6k : j5 ≤ j6 := by rw [← hj6]; exact le_gapAt _ _
                  have hj5' := Lib.hid hj5
                  have hj6' := Lib.hid hj6
                  clear hp hrs hiv
                  go_wp2_with fail
                  refine hpa.mono ?_
                  rintro e w9 ⟨hO9, rfl, hC9, pv9, ps9, hp9, hB9, hOw9, hz9⟩
                  have hP9 : Hid (PS w1 b c q s X ⟨#[]⟩ (.slice la xs.length lcap) pv9 ps9 k4 w9) := Lib.hid ⟨hPr.out.only.trans hO9, hO9.blk hPr.out.rd (fun e => by omega), hC9, hB9, hOw9⟩
                  have hz9' := Lib.hid hz9
                  subst hp9
                  rw [pdat_len] at hb6
                  have hov := askOver w9 b c s k4 (.slice la xs.length lcap) hP9.out.rd hP9.out.cur hbc hs' hb5
                  rw [hj5] at hov
                  clear hpa hO9 hC9 hB9 hOw9 hz9
                  cases hs5 : stopB s.data.toList j5
                  · rw [hs5] at hov
                    have hr := Lib.hid (show res = .inl (3, j5) from hrs'.out.trans (by rw [go_stuck hp'.out (by rw [hj5]; exact hs5), hj5]; rfl))
                    have hF := fun w' x h => askFail w' b c s j5 (.slice la xs.length lcap) 3 x h
                    clear hs5 hj5 hj6
                    go_wp2_with fail
                    refine hov.mono ?_
                    rintro e wa ⟨rfl, hCa, hGa⟩
                    have hPa := Lib.hid (hP9.out.turn hbc hcq hCa hGa)
                    clear hov hCa hGa
                    go_wp2_with fail
                    refine (hF _ hPa.out.rd hPa.out.cur).mono ?_
                    rintro e wb ⟨⟨x, rfl, hE⟩, hBb⟩
                    clear hF
                    go_wp2
                    go_ret
                    exact OnePost.bad hr.out ((hPa.out.only.mono hSh.out).then hBb) hE
                  · rw [hs5] at hov
                    have hs5' := Lib.hid hs5
                    have hga := fun w' h h' => askGaps w' b c s j5 (.slice la xs.length lcap) h h' hbc hs' hj5s
                    rw [hj6] at hga
                    have hnm := fun w' h h' => askNamed w' b c s j6 (.slice la xs.length lcap) h h' hbc hs' hj6s
                    clear hs5 hj5 hj6
                    go_wp2_with fail
                    refine hov.mono ?_
                    rintro e wa ⟨rfl, hCa, hGa⟩
                    have hPa := Lib.hid (hP9.out.turn hbc hcq hCa hGa)
                    clear hov hCa hGa
                    go_wp2_with fail
                    refine (hga _ hPa.out.rd hPa.out.cur).mono ?_
                    rintro e wb ⟨rfl, hCb, hGb⟩
                    have hPb := Lib.hid (hPa.out.turn hbc hcq hCb hGb)
                    clear hga hCb hGb
                    cases hn6 : namedB s.data.toList j6
                    · rw [hn6] at hnm
                      have hr : Hid (res = .inr (j6, ⟨X.data.toList, [], pdat ps9⟩)) := Lib.hid (hrs'.out.trans (by rw [go_last hp'.out (by rw [hj5'.out]; exact hs5'.out) (by rw [hj5'.out, hj6'.out]; exact hn6), hj5'.out, hj6'.out]; rfl))
                      clear hn6
                      go_wp2_with fail
                      refine (hnm _ hPb.out.rd hPb.out.cur).mono ?_
                      rintro e wd ⟨rfl, hCd, hGd⟩
                      have hPd := Lib.hid (hPb.out.turn hbc hcq hCd hGd)
                      clear hnm hCd hGd
                      go_wp2
                      go_roundg 0
                      case rel => exact ⟨false, j6, pv9, ps9, rfl, hj6s, hb6, hz9', hPd, Lib.hid (.inr ⟨rfl, rfl, hr.out⟩)⟩
                      case measure => omega
                    · rw [hn6] at hnm
                      have hr : Hid (res = oneOf X.data.toList (paramsGo s.data.toList f' j6 (pdat ps9))) := Lib.hid (hrs'.out.trans (by rw [go_more hp'.out (by rw [hj5'.out]; exact hs5'.out) (by rw [hj5'.out, hj6'.out]; exact hn6), hj5'.out, hj6'.out]))
                      clear hn6
                      go_wp2_with fail
                      refine (hnm _ hPb.out.rd hPb.out.cur).mono ?_
                      rintro e wd ⟨rfl, hCd, hGd⟩
                      have hPd := Lib.hid (hPb.out.turn hbc hcq hCd hGd)
                      clear hnm hCd hGd
                      go_wp2
                      go_roundg (s.size + 2 - j6)
                      case rel => exact ⟨true, j6, pv9, ps9, rfl, hj6s, hb6, hz9', hPd, Lib.hid (.inl ⟨rfl, rfl, f', by omega, hr.out⟩)⟩
                      case measure => omega
        · have d0 : decide (0 < nb) = false := decide_eq_false h0
          have hr := Lib.hid (hres'.out.symm.trans (o4.out hXne.out h8'.out hst (by omega)))
          have hF := fun w' x h => askFail w' b c s j2 (.slice la xs.length lcap) 3 x h
          clear hst
          go_wp2_with fail
          refine hO.mono ?_
          rintro e w5 ⟨rfl, hC5, hG5⟩
          have hP5 := Lib.hid (hP4.out.turn hbc hcq hC5 hG5)
          clear hO hC5 hG5
          go_wp2_with fail
          refine (hF _ hP5.out.rd hP5.out.cur).mono ?_
          rintro e w6 ⟨⟨x, rfl, hE⟩, hB6⟩
          clear hF
          go_wp2
          go_ret
          exact OnePost.bad hr.out ((hP5.out.only.mono hSh.out).then hB6) hE
      · rw [hst] at hO
        have hr := Lib.hid (hres'.out.symm.trans (o3.out hXne.out h8'.out hst))
        clear hst
        go_wp2_with fail
        refine hO.mono ?_
        rintro e w5 ⟨rfl, hC5, hG5⟩
        have hP5 := Lib.hid (hP4.out.turn hbc hcq hC5 hG5)
        have hS := hSh.out
        have hbase := hbase'.out
        clear hO hC5 hG5
        go_wp2_with fail
        have hXr := Lib.hid (hX.out.keep hP5.out.only (fun i e => by rcases e with e | e <;> omega))
        have r2 := hP5.out.rd.cell 2 rfl
        have o0 := hP5.out.box.cell 0 rfl
        have o1 := hP5.out.box.cell 1 rfl
        have o2 := hP5.out.box.cell 2 rfl
        have hPd := Lib.hid (hP5.out.later hbq hcq (Below.refl w5.heap.size w5).drew)
        have hXd := Lib.hid (hXr.out.later (Below.refl w5.heap.size w5).drew)
        have hbs : base ≤ w5.drew.heap.size := Nat.le_trans hbase hP5.out.only.size
        have hne : ∀ i, i < base → (Value.slice la xs.length lcap).ownBlock ≠ some i := fun i hi e => by have := own_lt hXd.out.row e; omega
        have r2a : (w5.alloc (Obj.cells #[.string X, .string ⟨#[]⟩, .slice none 0 0] 35)).cell? ⟨b, 2, none⟩ = some (.slice la xs.length lcap) :=
          (hP5.out.rd.alloc (Obj.cells #[.string X, .string ⟨#[]⟩, .slice none 0 0] 35)).cell 2 rfl
        go_region_law ((first
          | (refine step_append_one infoCh Tryd.underlying22 (by rfl) (by decide) encPC_len (by rfl) _ _ (by rfl) w5.drew base _ xs (by rfl) hXd.out.row ⟨X, ⟨#[]⟩, none, 0, []⟩ (encPC_one _) _ (by rfl) _ (by rfl) (by rfl) hl1 hl2 hbs ?_; intro v6 w6 hO6 hG6; obtain ⟨a6, c6, hv6, _⟩ := OwnG.shape encPC_len hO6; generalize hn6 : (xs ++ [(⟨X, ⟨#[]⟩, none, 0, []⟩ : PC)]).length = n6 at hv6; subst hv6; have hB6 := (hPd.out.rd.alloc (.cells #[.string X, .string ⟨#[]⟩, .slice none 0 0] 35)).grown hG6 (hne b (by omega)); have q6 := hB6.cell 2 rfl; have f6 := hB6.free 2)
          | fail))
        all_goals
          go_wp2
          go_ret
          refine OnePost.good (lv := .slice a6 n6 c6) (y := ⟨X, ⟨#[]⟩, none, 0, []⟩) hr.out ?_ ?_ ?_ (by simpa using hB6.set 2 (.slice a6 n6 c6)) ?_
          · exact ((hPd.out.only.mono hS).append hG6 (fun i e => .inl (.inr (.inr (own_lt hXd.out.row e).1)))).set (.inl (.inr (.inl rfl))) _
          · exact Blk.far (Blk.grown (Blk.alloc hPd.out.cur _) hG6 (hne c (by omega))) _ _ (by simpa using fun e => hbc e.symm)
          · rfl
          · exact (Chals.snoc (y := ⟨X, ⟨#[]⟩, none, 0, []⟩) (o := .cells #[.string X, .string ⟨#[]⟩, .slice none 0 0] 35) hXd.out (own_base hPd.out.own (by omega)) (Nat.zero_le _) hG6 hO6).keep (Only.set (S := fun i => i = b) (Only.refl _ _) (.inl rfl) _) (fun i e => .inl (by omega))
  · have he : X.data.toList = [] := by rw [Lib.toList_data] at hXe; simpa using hXe
    obtain ⟨he1, rfl⟩ := o1.out he
    have hF := fun w' x h => askFail w' b c s j (.slice la xs.length lcap) 3 x h
    go_wp2_with fail
    refine (hF _ hP3'.out.rd hP3'.out.cur).mono ?_
    rintro e w6 ⟨⟨x, rfl, hE⟩, hB6⟩
    clear hF
    go_wp2
    go_ret
    exact OnePost.bad (hres'.out.symm.trans he1) ((hP3'.out.only.mono hSh.out).then hB6) hE
end Go.Proofs.YthmkilglidfdiaaDoor
