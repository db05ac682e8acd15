/- The reference's AskParse: the challenges of a header. -/
import Derived.Test.YthmkilglidfdiaaDoorRefJ
import Derived.Test.YthmkilglidfdiaaDoorAskW
namespace Go.Proofs.YthmkilglidfdiaaDoor
open Go.RowKit
theorem paramAt_err {l : List UInt8} {k : Nat} {ps : List PPar} {e : Int × Nat} (h : paramAt l k ps = .inl e) : (e.1 == 0) = false := by
  unfold paramAt at h
  simp only at h
  split at h
  · cases h; rfl
  · split at h
    · cases h; rfl
    · split at h
      · cases h; rfl
      · split at h
        · cases h; rfl
        · cases h
theorem paramsGo_err (l : List UInt8) : ∀ (f k : Nat) (ps : List PPar) (e : Int × Nat), paramsGo l f k ps = .inl e → (e.1 == 0) = false
  | 0, _, _, _, h => by simp only [paramsGo] at h; cases h
  | f + 1, k, ps, e, h => by
    unfold paramsGo at h
    cases hp : paramAt l k ps with
    | inl z => rw [hp] at h; cases h; exact paramAt_err hp
    | inr z =>
      obtain ⟨k4, ps'⟩ := z
      rw [hp] at h
      simp only at h
      split at h
      · cases h; rfl
      · split at h
        · exact paramsGo_err l f _ ps' e h
        · cases h
theorem ins_err {l : List UInt8} {k : Nat} {e : Int × Nat} (h : insL l k = .inl e) : (e.1 == 0) = false := by
  unfold insL at h
  split at h
  · cases h
  · split at h
    · rename_i z hz
      cases h
      exact paramsGo_err l _ _ _ _ hz
    · cases h
def ParsePostR (w : World) (l : List UInt8) (e : Ending) (w' : World) : Prop :=
  ∃ lv xs, e = .returned (.tuple #[lv, .agg #[.int .i64 (parseRes l).2.1, .int .i64 (parseRes l).2.2]]) ∧ Chals w' w.heap.size lv xs ∧ xs.map pcd = (parseRes l).1 ∧ Below w.heap.size w w'
set_option maxRecDepth 100000 in
theorem isFlt (n m : Int) (w : World) : Calls Tryd.prog 20 #[.agg #[.int .i64 n, .int .i64 m]] w fun e w' => e = .returned (.bool (n == 0)) ∧ Below w.heap.size w w' := by
  go_enter Tryd.func20, Tryd.ntmps20
  go_wp2
  go_ret
  exact ⟨rfl, (Below.refl _ _).alloc (Nat.le_refl _) _⟩
set_option maxRecDepth 100000 in
set_option maxHeartbeats 20000000 in
set_option linter.unusedSimpArgs false in
theorem refAskParse (s : ByteArray) (w : World) (hs : s.size ≤ 1000000) : Calls Tryd.prog 5 #[.string s] w (ParsePostR w s.data.toList) := by
  have hs' : s.size ≤ 1099511627776 := by omega
  have hf0 := Lib.hid (Blk.new w #[.int .i64 0, .int .i64 0] tFl)
  have hl0 := Lib.hid ((Below.refl w.heap.size w).alloc (Nat.le_refl _) (Obj.cells #[.int .i64 0, .int .i64 0] tFl))
  go_enter Tryd.func5, Tryd.ntmps5
  by_cases hl : 3000 < s.size
  · have hr := Lib.hid (pr_long (l := s.data.toList) (by rw [← sz_len]; exact hl))
    go_wp2_with fail
    refine (bare_made 4 _).mono ?_
    rintro e w1 ⟨rfl, hB1⟩
    have hF1 := Lib.hid (hf0.out.later hB1)
    have hL1 := Lib.hid (hl0.out.then (by simp) hB1)
    clear hB1
    have g0 := hF1.out.cell 0 rfl
    have g1 := hF1.out.cell 1 rfl
    have v0 := hF1.out.free 0
    have v1 := hF1.out.free 1
    have hlow := Lib.hid ((Below.setCell hL1.out (p := ⟨w.heap.size, 0, none⟩) (Nat.le_refl _) (.int .i64 4)).setCell (p := ⟨w.heap.size, 1, none⟩) (Nat.le_refl _) (.int .i64 (-1)))
    (try dsimp only)
    (repeat (first | go_values | go_skip | go_guarded | go_step | go_upon))
    obtain ⟨y0, y1⟩ := set_two (.int .i64 4) (.int .i64 (-1)) g0 g1
    (try simp only [Exit.inBlock, Exit.then])
    refine bodyPost_ret (v := .tuple #[(.slice none 0 0), .agg #[.int .i64 4, .int .i64 (-1)]]) (by simp [results, Tryd.results5, go_sem, y0, y1]; try rfl) rfl ?_
    exact ⟨(.slice none 0 0), [], by rw [hr.out], Chals.nil _ _, by rw [hr.out]; try rfl, hlow.out⟩
  · have hl' := Lib.hid (show ¬3000 < s.data.toList.length by rw [← sz_len]; exact hl)
    have hb0 := Lib.hid ((hl0.out.alloc (by simp) (Obj.cells #[.string s, .int .i64 0] tR)))
    have hc0 : Hid (CurAt tR ((w.alloc (Obj.cells #[.int .i64 0, .int .i64 0] tFl)).alloc (Obj.cells #[.string s, .int .i64 0] tR)) (w.heap.size + 1) s 0) := Lib.hid (by
      have := Blk.new (w.alloc (Obj.cells #[.int .i64 0, .int .i64 0] tFl)) #[.string s, .int .i64 0] tR
      unfold CurAt
      simpa using this)
    have hf1 := Lib.hid (hf0.out.alloc (Obj.cells #[.string s, .int .i64 0] tR))
    go_wp2
    go_loopg [5] (s.size + 1) (fun g v5 wr => ∃ (k f : Nat) (xs : List PC), k ≤ s.size ∧ xs.length ≤ 8 ∧ Hid (g = s.size + 1 - k) ∧ Hid (CurAt tR wr (w.heap.size + 1) s k) ∧ Hid (Blk wr w.heap.size #[.int .i64 0, .int .i64 0] tFl) ∧ Hid (Chals wr (w.heap.size + 1 + 1) v5 xs) ∧ Hid (Below w.heap.size w wr) ∧ Hid (s.size < k + f ∧ parseL s.data.toList = parseGo s.data.toList f k (xs.map pcd)))
    case atStart => exact ⟨0, s.size + 1, [], Nat.zero_le _, Nat.zero_le _, Lib.hid rfl, hc0, hf1, Lib.hid (Chals.nil _ _), hb0, Lib.hid ⟨by omega, by rw [sz_len]; rfl⟩⟩
    case round =>
      obtain ⟨k, f, xs, hk, hx8, hg, hC, hF, hX, hB, hinv⟩ := hrel
      clear hf0 hl0 hb0 hc0 hf1
      obtain ⟨hf, hrs0⟩ := hinv.out
      obtain ⟨f', rfl⟩ : ∃ f', f = f' + 1 := ⟨f - 1, by omega⟩
      have hrs := Lib.hid hrs0
      obtain ⟨la, lcap, rfl, _, _, _, _⟩ := OwnG.shape encPC_len hX.out.row
      have hgp := refGaps wr (w.heap.size + 1) s k hC.out hs' hk
      obtain ⟨j, hj⟩ : ∃ j, gapAt s.data.toList k = j := ⟨_, rfl⟩
      have hjs : j ≤ s.size := by
        have := gapAt_le s.data.toList k (by rw [← sz_len]; exact hk)
        rw [hj, ← sz_len] at this
        exact this
      have hkj : k ≤ j := by rw [← hj]; exact le_gapAt _ _
      rw [hj] at hgp
      have hj' := Lib.hid hj
      clear hj hrs0 hinv
      go_wp2_with fail
      refine hgp.mono ?_
      rintro e w1 ⟨rfl, hC1, hG1⟩
      have hF1 := Lib.hid (hF.out.grown hG1 (fun e => by have := Option.some.inj e; omega))
      have hX1 := Lib.hid (hX.out.keep (Only.of_grown (S := fun i => i = (w.heap.size + 1)) hG1 (fun i e => by cases e; rfl)) (fun i e => .inl (by omega)))
      have hB1 := Lib.hid (below_only hB.out hG1 hB.out.size (Nat.le_succ _))
      have hC1' := Lib.hid hC1
      have c1 := hC1.c1
      clear hgp hG1 hC1 hF hX hB hC
      by_cases he : j = s.size
      · have d : ((j : Int) == (s.size : Int)) = true := by rw [he]; simp
        have hr := Lib.hid (pr_ok hl'.out (hrs.out.trans (parse_end (by rw [hj'.out, ← sz_len]; omega))))
        clear he
        go_wp2_with fail
        refine (good_is _).mono ?_
        rintro e w2 ⟨rfl, hB2⟩
        have hF2 := Lib.hid (hF1.out.later hB2)
        have hX2 := Lib.hid (hX1.out.later hB2)
        have hL2 := Lib.hid (hB1.out.trans (hB2.mono hB1.out.size))
        have hst2 := Lib.hid (fun (u0 u1 : Value) => hX2.out.keep ((Only.set (S := fun i => i = w.heap.size) (Only.refl _ _) (.inl rfl) u0 (p := ⟨w.heap.size, 0, none⟩)).set (.inl rfl) u1 (p := ⟨w.heap.size, 1, none⟩)))
        clear hB2 hX1 hC1' c1
        have g0 := hF2.out.cell 0 rfl
        have g1 := hF2.out.cell 1 rfl
        have v0 := hF2.out.free 0
        have v1 := hF2.out.free 1
        have hlow := Lib.hid ((Below.setCell hL2.out (p := ⟨w.heap.size, 0, none⟩) (Nat.le_refl _) (.int .i64 0)).setCell (p := ⟨w.heap.size, 1, none⟩) (Nat.le_refl _) (.int .i64 (-1)))
        (try dsimp only)
        (repeat (first | go_values | go_skip | go_guarded | go_step | go_upon))
        obtain ⟨y0, y1⟩ := set_two (.int .i64 0) (.int .i64 (-1)) g0 g1
        (try simp only [Exit.inBlock, Exit.then])
        refine bodyPost_ret (v := .tuple #[(.slice la xs.length lcap), .agg #[.int .i64 0, .int .i64 (-1)]]) (by simp [results, Tryd.results5, go_sem, y0, y1]; try rfl) rfl ?_
        exact ⟨(.slice la xs.length lcap), xs, by rw [hr.out], ((hst2.out _ _ (fun i e => .inl (by omega))).base (by omega)), by rw [hr.out]; try rfl, hlow.out⟩
      · have d : ((j : Int) == (s.size : Int)) = false := beq_eq_false_iff_ne.2 (by omega)
        have hne0 : ¬s.data.toList.length ≤ gapAt s.data.toList k := by rw [hj'.out, ← sz_len]; omega
        have hbadP := Lib.hid (fun n m h => pr_bad (n := n) (m := m) hl'.out (hrs.out.trans (parse_bad hne0 (by rw [hj'.out, List.length_map]; exact h))))
        have hgoP := Lib.hid (fun k' x h => hrs.out.trans (parse_go (k' := k') (x := x) hne0 (by rw [hj'.out, List.length_map]; exact h)))
        have hbdP := Lib.hid (fun x h => oneAt_bd (l := s.data.toList) (k := j) (n := xs.length) (x := x) (by rw [← sz_len]; exact hjs) hx8 h)
        have h2 := refWord w1 (w.heap.size + 1) s j hC1'.out hs' hjs
        have hle := wordAt_le s j hjs
        obtain ⟨X, hX0⟩ : ∃ X : ByteArray, X = ⟨(wordAt s j).toArray⟩ := ⟨_, rfl⟩
        have hXl : X.data.toList = wordL s.data.toList j := by rw [hX0, mk_toList]; rfl
        obtain ⟨j1, hj1⟩ : ∃ j1, wEnd s.data.toList j = j1 := ⟨_, rfl⟩
        have hj12 : j + (wordAt s j).length = j1 := hj1
        rw [hj12] at h2 hle
        rw [← hX0] at h2
        obtain ⟨nb, hnb⟩ : ∃ nb, blanksN s j1 = nb := ⟨_, rfl⟩
        have h3 := fun w' h => refBlanks w' (w.heap.size + 1) s j1 h hs' hle
        have hle2 := blanksN_le s j1 hle
        obtain ⟨j2, hj3⟩ : ∃ j2, blAt s.data.toList j1 = j2 := ⟨_, rfl⟩
        have hj4 : j1 + blanksN s j1 = j2 := hj3
        rw [hj4] at h3 hle2
        rw [hnb] at hj4 h3
        have o1 := Lib.hid (fun h => one_empty (l := s.data.toList) (k := j) xs.length h)
        have o2 := Lib.hid (fun h => one_many (l := s.data.toList) (k := j) h)
        have o3 := Lib.hid (fun h hn hs => one_stop (l := s.data.toList) (k := j) (n := xs.length) h hn hs)
        have o4 := Lib.hid (fun h hn hs hb => one_tight (l := s.data.toList) (k := j) (n := xs.length) h hn hs hb)
        have o5 := Lib.hid (fun h hn hs hb => one_ins (l := s.data.toList) (k := j) (n := xs.length) h hn hs hb)
        rw [hj1, ← hXl] at o1
        rw [← hXl] at o2
        rw [hj1, hj3, ← hXl] at o3 o4 o5
        have hXn0 : X.toList.isEmpty = false → X.data.toList ≠ [] := by intro h e; rw [Lib.toList_data, e] at h; cases h
        have hXn := Lib.hid hXn0
        have hl1 : xs.length + 1 ≤ maxLen := by unfold maxLen; omega
        have hl2 : (xs.length + 1) * 56 ≤ 140737488355328 := by omega
        clear hj1 hj3 hXl hX0 hnb hXn0 hne0 he
        go_wp2_with fail
        refine h2.mono ?_
        rintro e w2 ⟨rfl, hC2, hG2⟩
        have hsz2 := hG2.size
        have hF2 := hF1.out.grown hG2 (fun e => by have := Option.some.inj e; omega)
        have hX2 := hX1.out.keep (Only.of_grown (S := fun i => i = (w.heap.size + 1)) hG2 (fun i e => by cases e; rfl)) (fun i e => .inl (by omega))
        have hB2 := below_only hB1.out hG2 hB1.out.size (Nat.le_succ _)
        have hc2s := CurAt.lt hC2
        have hal := (Below.refl w2.heap.size w2).alloc (Nat.le_refl _) (Obj.cells #[.string X, .string ⟨#[]⟩, .slice none 0 0] tCh)
        obtain ⟨q, hq⟩ : ∃ q, q = w2.heap.size := ⟨_, rfl⟩
        obtain ⟨w3, hw3⟩ : ∃ w3, w3 = w2.alloc (Obj.cells #[.string X, .string ⟨#[]⟩, .slice none 0 0] 35) := ⟨_, rfl⟩
        have hC3 := Lib.hid (show CurAt tR w3 (w.heap.size + 1) s j1 by rw [hw3]; exact hC2.later hal)
        have hF3 := Lib.hid (show Blk w3 w.heap.size #[.int .i64 0, .int .i64 0] tFl by rw [hw3]; exact hF2.later hal)
        have hQ3 := Lib.hid (show Blk w3 q #[.string X, .string ⟨#[]⟩, .slice none 0 0] tCh by rw [hw3, hq]; exact Blk.new _ _ _)
        have hX3 := Lib.hid (show Chals w3 (w.heap.size + 1 + 1) (.slice la xs.length lcap) xs by rw [hw3]; exact hX2.later hal)
        have hB3 := Lib.hid (show Below w.heap.size w w3 by rw [hw3]; exact hB2.alloc hB2.size _)
        have hcq : w.heap.size + 1 < q := by omega
        have hown := Lib.hid (fun g (hg : (Value.slice la xs.length lcap).ownBlock = some g) => (show g < q by have := own_lt hX2.row hg; omega))
        have hown2 := Lib.hid (fun x (hx : x ∈ xs) g (hg : x.pv.ownBlock = some g) => (show g < q by have := own_lt (hX2.each x hx) hg; omega))
        clear h2 hG2 hC2 hF2 hX2 hB2 hF1 hX1 hB1 hC1' hal
        go_upto_if 37 with (fail)
        rw [← hq, ← hw3]
        clear hq hw3 c1 hsz2 hc2s
        cases hXe : X.toList.isEmpty
        · have hXne := Lib.hid (hXn.out hXe)
          by_cases h8 : xs.length = 8
          · have d8 : ((xs.length : Int) == 8) = true := by rw [h8]; rfl
            have hr := Lib.hid (hbadP.out 4 j (by rw [h8]; exact o2.out hXne.out))
            clear h8 o1 o2 o3 o4 o5
            go_upto_region 13 with (fail)
            have g0 := hF3.out.cell 0 rfl
            have g1 := hF3.out.cell 1 rfl
            have v0 := hF3.out.free 0
            have v1 := hF3.out.free 1
            have hlow := Lib.hid ((Below.setCell hB3.out (p := ⟨w.heap.size, 0, none⟩) (Nat.le_refl _) (.int .i64 4)).setCell (p := ⟨w.heap.size, 1, none⟩) (Nat.le_refl _) (.int .i64 ((j : Int))))
            (repeat (first | go_values | go_skip | go_guarded | go_step | go_upon))
            obtain ⟨y0, y1⟩ := set_two (.int .i64 4) (.int .i64 ((j : Int))) g0 g1
            (try simp only [Exit.inBlock, Exit.then])
            refine bodyPost_ret (v := .tuple #[(.slice none 0 0), .agg #[.int .i64 4, .int .i64 ((j : Int))]]) (by simp [results, Tryd.results5, go_sem, y0, y1]; try rfl) rfl ?_
            exact ⟨(.slice none 0 0), [], by rw [hr.out], Chals.nil _ _, by rw [hr.out]; try rfl, hlow.out⟩
          · have d8 : ((xs.length : Int) == 8) = false := beq_eq_false_iff_ne.2 (by omega)
            have h8' := Lib.hid h8
            have hx9 : xs.length + 1 ≤ 8 := by omega
            clear h8
            go_wp2_with fail
            refine (h3 _ hC3.out).mono ?_
            rintro e w4 ⟨rfl, hC4, hG4⟩
            have hF4 := Lib.hid (hF3.out.grown hG4 (fun e => by have := Option.some.inj e; omega))
            have hQ4 := Lib.hid (hQ3.out.grown hG4 (fun e => by have := Option.some.inj e; omega))
            have hX4 := Lib.hid (hX3.out.keep (Only.of_grown (S := fun i => i = (w.heap.size + 1)) hG4 (fun i e => by cases e; rfl)) (fun i e => .inl (by omega)))
            have hB4 := Lib.hid (below_only hB3.out hG4 hB3.out.size (Nat.le_succ _))
            have hst := refStops w4 (w.heap.size + 1) s j2 hC4 hle2
            have hC4' := Lib.hid hC4
            clear h3 hC4 hG4 hF3 hQ3 hX3 hB3 hC3
            cases hs2 : stopB s.data.toList j2
            · rw [hs2] at hst
              have hs2' := Lib.hid hs2
              clear hs2
              go_wp2_with fail
              refine hst.mono ?_
              rintro e w5 ⟨rfl, nq, rfl⟩
              have hC5 := Lib.hid (hC4'.out.drewN nq)
              have hF5 := Lib.hid (hF4.out.drewN nq)
              have hQ5 := Lib.hid (hQ4.out.drewN nq)
              have hX5 := Lib.hid (hX4.out.later (below_drewN (Below.refl _ _) nq))
              have hB5 := Lib.hid (below_drewN hB4.out nq)
              generalize w4.drewN nq = w5 at hC5 hF5 hQ5 hX5 hB5 ⊢
              clear hst hC4' hF4 hQ4 hX4 hB4
              by_cases h0 : 0 < nb
              · have d0 : decide (0 < nb) = true := decide_eq_true h0
                have hI := refInside w5 (w.heap.size + 1) q s X j2 hC5.out hQ5.out hcq hs hle2
                have hoi := Lib.hid (o5.out hXne.out h8'.out hs2'.out (by omega))
                unfold InsPost at hI
                cases hins : insL s.data.toList j2 with
                | inl z =>
                  obtain ⟨n, m⟩ := z
                  simp only [hins] at hI
                  have hr := Lib.hid (hbadP.out n m (by rw [hoi.out, hins]))
                  have hIs := fun w' => isFlt n m w'
                  have hn0 := ins_err hins
                  simp only at hn0
                  rw [hn0] at hIs
                  clear hins hn0 o1 o2 o3 o4 o5
                  go_wp2_with fail
                  refine hI.mono ?_
                  rintro e w6 ⟨hO6, rfl⟩
                  have hF6 := Lib.hid (hO6.blk hF5.out (fun e => by omega))
                  have hB6 := Lib.hid (hO6.below hB5.out hB5.out.size (fun i e => by omega))
                  obtain ⟨w7, hw7⟩ : ∃ w7, w7 = w6.alloc (Obj.cells #[.int .i64 n, .int .i64 (m : Int)] 25) := ⟨_, rfl⟩
                  have hF7 := Lib.hid (show Blk w7 w.heap.size #[.int .i64 0, .int .i64 0] tFl by rw [hw7]; exact hF6.out.alloc _)
                  have hN7 := Lib.hid (show Blk w7 w6.heap.size #[.int .i64 n, .int .i64 (m : Int)] tFl by rw [hw7]; exact Blk.new _ _ _)
                  have hB7 := Lib.hid (show Below w.heap.size w w7 by rw [hw7]; exact hB6.out.alloc hB6.out.size _)
                  clear hI hO6 hF6 hB6 hF5 hB5 hC5 hQ5 hX5
                  go_wp2_with fail
                  rw [← hw7]
                  refine (hIs _).mono ?_
                  rintro e w8 ⟨rfl, hB8⟩
                  have hF8 := Lib.hid (hF7.out.later hB8)
                  have hN8 := Lib.hid (hN7.out.later hB8)
                  have hL8 := Lib.hid (hB7.out.trans (hB8.mono hB7.out.size))
                  clear hIs hw7 hB8 hF7 hN7 hB7
                  have x0 := hN8.out.cell 0 rfl
                  have x1 := hN8.out.cell 1 rfl
                  go_upto_region 20 with (fail)
                  have g0 := hF8.out.cell 0 rfl
                  have g1 := hF8.out.cell 1 rfl
                  have v0 := hF8.out.free 0
                  have v1 := hF8.out.free 1
                  have hlow := Lib.hid ((Below.setCell hL8.out (p := ⟨w.heap.size, 0, none⟩) (Nat.le_refl _) (.int .i64 n)).setCell (p := ⟨w.heap.size, 1, none⟩) (Nat.le_refl _) (.int .i64 ((m : Int))))
                  go_region
                  all_goals
                    (repeat (first | go_values | go_skip | go_guarded | go_step | go_upon))
                    obtain ⟨y0, y1⟩ := set_two (.int .i64 n) (.int .i64 ((m : Int))) g0 g1
                    (try simp only [Exit.inBlock, Exit.then])
                    refine bodyPost_ret (v := .tuple #[(.slice none 0 0), .agg #[.int .i64 n, .int .i64 ((m : Int))]]) (by simp [results, Tryd.results5, go_sem, y0, y1]; try rfl) rfl ?_
                    exact ⟨(.slice none 0 0), [], by rw [hr.out], Chals.nil _ _, by rw [hr.out]; try rfl, hlow.out.drew⟩
                | inr z =>
                  obtain ⟨e1, t, psd⟩ := z
                  simp only [hins] at hI
                  have hone : oneAt s.data.toList j xs.length = .inr (e1, ⟨X.data.toList, t, psd⟩) := by rw [hoi.out, hins]
                  have hbd := hbdP.out _ hone
                  simp only at hbd
                  rw [← sz_len] at hbd
                  obtain ⟨hbd1, hbd2, _⟩ := hbd
                  have hgo := Lib.hid (hgoP.out _ _ hone)
                  have hIs := fun w' => isFlt 0 (-1) w'
                  rw [show ((0 : Int) == 0) = true from rfl] at hIs
                  clear hins hone o1 o2 o3 o4 o5
                  go_wp2_with fail
                  refine hI.mono ?_
                  rintro e w6 ⟨hO6, rfl, hC6, T, pv, ps, hT, hps, hpl, hQ6, hOw6⟩
                  obtain ⟨pa, pcap, rfl, _, _, _, _⟩ := OwnG.shape encPar_len hOw6
                  have hF6 := hO6.blk hF5.out (fun e => by omega)
                  have hB6 := hO6.below hB5.out hB5.out.size (fun i e => by omega)
                  have hX6 : Chals w6 (w.heap.size + 1 + 1) (.slice la xs.length lcap) xs := ⟨Only.own hO6 hX5.out.row (fun g hg e => by have := own_lt hX5.out.row hg; have := hown.out g hg; omega), fun x hx => Only.own hO6 (hX5.out.each x hx) (fun g hg e => by have := own_lt (hX5.out.each x hx) hg; have := hown2.out x hx g hg; omega), hX5.out.small⟩
                  obtain ⟨w7, hw7⟩ : ∃ w7, w7 = w6.alloc (Obj.cells #[.int .i64 0, .int .i64 (-1)] 25) := ⟨_, rfl⟩
                  have hal := (Below.refl w6.heap.size w6).alloc (Nat.le_refl _) (Obj.cells #[.int .i64 0, .int .i64 (-1)] tFl)
                  have hT' := Lib.hid hT
                  have hps' := Lib.hid hps
                  have hC7 := Lib.hid (show CurAt tR w7 (w.heap.size + 1) s e1 by rw [hw7]; exact hC6.later hal)
                  have hF7 := Lib.hid (show Blk w7 w.heap.size #[.int .i64 0, .int .i64 0] tFl by rw [hw7]; exact hF6.later hal)
                  have hQ7 := Lib.hid (show Blk w7 q #[.string X, .string T, .slice pa ps.length pcap] tCh by rw [hw7]; exact hQ6.later hal)
                  have hX7 := Lib.hid (show Chals w7 (w.heap.size + 1 + 1) (.slice la xs.length lcap) xs by rw [hw7]; exact hX6.later hal)
                  have hO7 := Lib.hid (show OwnPr w7 (q + 1) (.slice pa ps.length pcap) ps by rw [hw7]; exact own_later hOw6 hal)
                  have hB7 := Lib.hid (show Below w.heap.size w w7 by rw [hw7]; exact hB6.alloc hB6.size _)
                  clear hI hO6 hF6 hB6 hF5 hB5 hC5 hQ5 hX5 hC6 hQ6 hOw6 hX6 hal hT hps
                  go_wp2_with fail
                  rw [← hw7]
                  refine (hIs _).mono ?_
                  rintro e w8 ⟨rfl, hB8⟩
                  have hC8 := Lib.hid (hC7.out.later hB8)
                  have hF8 := Lib.hid (hF7.out.later hB8)
                  have hQ8 := Lib.hid (hQ7.out.later hB8)
                  have hX8 := Lib.hid (hX7.out.later hB8)
                  have hO8 := Lib.hid (own_later hO7.out hB8)
                  have hL8 := Lib.hid (hB7.out.trans (hB8.mono hB7.out.size))
                  clear hIs hw7 hB8 hC7 hF7 hQ7 hX7 hO7 hB7
                  have o0 := hQ8.out.cell 0 rfl
                  have o1 := hQ8.out.cell 1 rfl
                  have o2 := hQ8.out.cell 2 rfl
                  have hOx := hX8.out.row
                  have hbs : w.heap.size + 1 + 1 ≤ w8.heap.size := by have := hC8.out.lt; omega
                  have hne : ∀ i, i ≤ w.heap.size + 1 → (Value.slice la xs.length lcap).ownBlock ≠ some i := fun i hi e => by have := own_lt hX8.out.row e; omega
                  go_wp2_with (at_builtin; refine wpList_append_one infoCh Tryd.underlying22 rfl (by decide) encPC_len rfl _ _ rfl _ (w.heap.size + 1 + 1) _ xs rfl ?_ (⟨X, T, pa, pcap, ps⟩ : PC) (encPC_one _) _ rfl _ rfl ?_ ?_ ?_ ?_ ?_; exact hOx; exact rfl; exact hl1; exact hl2; exact hbs; intro v6 w6 hO6 hG6 hne6)
                  have hC6 := Lib.hid (Blk.grown (Blk.alloc hC8.out _) hG6 (hne _ (Nat.le_refl _)))
                  have hF6 := Lib.hid (Blk.grown (Blk.alloc hF8.out _) hG6 (hne _ (Nat.le_succ _)))
                  have hX6 := Lib.hid (Chals.snoc (y := ⟨X, T, pa, pcap, ps⟩) (o := .cells #[.string X, .string T, .slice pa ps.length pcap] 35) hX8.out (own_base hO8.out (show w.heap.size + 1 + 1 ≤ q + 1 by omega)) hpl hG6 hO6)
                  have hB6 := Lib.hid (below_append hL8.out (own_base hX8.out.row (show w.heap.size ≤ w.heap.size + 1 + 1 by omega)) hG6 hL8.out.size)
                  go_wp2
                  go_roundg (s.size + 1 - e1)
                  case rel => exact ⟨e1, f', xs ++ [⟨X, T, pa, pcap, ps⟩], by omega, by simp; omega, Lib.hid rfl, hC6, hF6, hX6, hB6, Lib.hid ⟨by omega, (by rw [hgo.out, List.map_append, ← hT'.out, ← hps'.out]; rfl)⟩⟩
                  case measure => have := hg.out; omega
              · have d0 : decide (0 < nb) = false := decide_eq_false h0
                have hr := Lib.hid (hbadP.out 3 j2 (o4.out hXne.out h8'.out hs2'.out (by omega)))
                have c1 := hC5.out.c1
                clear o1 o2 o3 o4 o5
                go_upto_region 17 with (fail)
                have g0 := hF5.out.cell 0 rfl
                have g1 := hF5.out.cell 1 rfl
                have v0 := hF5.out.free 0
                have v1 := hF5.out.free 1
                have hlow := Lib.hid ((Below.setCell hB5.out (p := ⟨w.heap.size, 0, none⟩) (Nat.le_refl _) (.int .i64 3)).setCell (p := ⟨w.heap.size, 1, none⟩) (Nat.le_refl _) (.int .i64 ((j2 : Int))))
                go_region
                all_goals
                  (repeat (first | go_values | go_skip | go_guarded | go_step | go_upon))
                  obtain ⟨y0, y1⟩ := set_two (.int .i64 3) (.int .i64 ((j2 : Int))) g0 g1
                  (try simp only [Exit.inBlock, Exit.then])
                  refine bodyPost_ret (v := .tuple #[(.slice none 0 0), .agg #[.int .i64 3, .int .i64 ((j2 : Int))]]) (by simp [results, Tryd.results5, go_sem, y0, y1]; try rfl) rfl ?_
                  exact ⟨(.slice none 0 0), [], by rw [hr.out], Chals.nil _ _, by rw [hr.out]; try rfl, hlow.out.drew⟩
            · rw [hs2] at hst
              have hone := o3.out hXne.out h8'.out hs2
              have hbd := hbdP.out _ hone
              simp only at hbd
              rw [← sz_len] at hbd
              obtain ⟨hbd1, hbd2, _⟩ := hbd
              have hgo := Lib.hid (hgoP.out _ _ hone)
              clear hs2 hone o1 o2 o3 o4 o5
              go_wp2_with fail
              refine hst.mono ?_
              rintro e w5 ⟨rfl, nq, rfl⟩
              have hC5 := Lib.hid (hC4'.out.drewN nq)
              have hF5 := Lib.hid (hF4.out.drewN nq)
              have hQ5 := Lib.hid (hQ4.out.drewN nq)
              have hX5 := Lib.hid (hX4.out.later (below_drewN (Below.refl _ _) nq))
              have hB5 := Lib.hid (below_drewN hB4.out nq)
              generalize w4.drewN nq = w5 at hC5 hF5 hQ5 hX5 hB5 ⊢
              clear hst hC4' hF4 hQ4 hX4 hB4
              have o0 := hQ5.out.cell 0 rfl
              have o1 := hQ5.out.cell 1 rfl
              have o2 := hQ5.out.cell 2 rfl
              have hOx := hX5.out.row
              have hbs : w.heap.size + 1 + 1 ≤ w5.heap.size := by have := hC5.out.lt; omega
              have hne : ∀ i, i ≤ w.heap.size + 1 → (Value.slice la xs.length lcap).ownBlock ≠ some i := fun i hi e => by have := own_lt hX5.out.row e; omega
              go_wp2_with (at_builtin; refine wpList_append_one infoCh Tryd.underlying22 rfl (by decide) encPC_len rfl _ _ rfl _ (w.heap.size + 1 + 1) _ xs rfl ?_ (⟨X, ⟨#[]⟩, none, 0, []⟩ : PC) (encPC_one _) _ rfl _ rfl ?_ ?_ ?_ ?_ ?_; exact hOx; exact rfl; exact hl1; exact hl2; exact hbs; intro v6 w6 hO6 hG6 hne6)
              have hC6 := Lib.hid (Blk.grown (Blk.alloc hC5.out _) hG6 (hne _ (Nat.le_refl _)))
              have hF6 := Lib.hid (Blk.grown (Blk.alloc hF5.out _) hG6 (hne _ (Nat.le_succ _)))
              have hX6 := Lib.hid (Chals.snoc (y := ⟨X, ⟨#[]⟩, none, 0, []⟩) (o := .cells #[.string X, .string ⟨#[]⟩, .slice none 0 0] 35) hX5.out (OwnG.nil _ _) (Nat.zero_le _) hG6 hO6)
              have hB6 := Lib.hid (below_append hB5.out (own_base hX5.out.row (show w.heap.size ≤ w.heap.size + 1 + 1 by omega)) hG6 hB5.out.size)
              go_wp2
              go_roundg (s.size + 1 - j2)
              case rel => exact ⟨j2, f', xs ++ [⟨X, ⟨#[]⟩, none, 0, []⟩], by omega, by simp; omega, Lib.hid rfl, hC6, hF6, hX6, hB6, Lib.hid ⟨by omega, (by rw [hgo.out, List.map_append]; rfl)⟩⟩
              case measure => have := hg.out; omega
        · have he : X.data.toList = [] := by rw [Lib.toList_data] at hXe; simpa using hXe
          have hr := Lib.hid (hbadP.out 3 j (o1.out he).1)
          clear he o1 o2 o3 o4 o5
          go_upto_region 11 with (fail)
          have g0 := hF3.out.cell 0 rfl
          have g1 := hF3.out.cell 1 rfl
          have v0 := hF3.out.free 0
          have v1 := hF3.out.free 1
          have hlow := Lib.hid ((Below.setCell hB3.out (p := ⟨w.heap.size, 0, none⟩) (Nat.le_refl _) (.int .i64 3)).setCell (p := ⟨w.heap.size, 1, none⟩) (Nat.le_refl _) (.int .i64 ((j : Int))))
          (repeat (first | go_values | go_skip | go_guarded | go_step | go_upon))
          obtain ⟨y0, y1⟩ := set_two (.int .i64 3) (.int .i64 ((j : Int))) g0 g1
          (try simp only [Exit.inBlock, Exit.then])
          refine bodyPost_ret (v := .tuple #[(.slice none 0 0), .agg #[.int .i64 3, .int .i64 ((j : Int))]]) (by simp [results, Tryd.results5, go_sem, y0, y1]; try rfl) rfl ?_
          exact ⟨(.slice none 0 0), [], by rw [hr.out], Chals.nil _ _, by rw [hr.out]; try rfl, hlow.out⟩
end Go.Proofs.YthmkilglidfdiaaDoor
