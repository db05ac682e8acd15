/- ask.Parse: the challenges of a header. -/
import Derived.Test.YthmkilglidfdiaaDoorAskO
namespace Go.Proofs.YthmkilglidfdiaaDoor
open Go.RowKit
/-- a header's challenges, and the error: its number, its place -/
def parseRes (l : List UInt8) : List PChal × Int × Int := if 3000 < l.length then ([], 4, -1) else match parseL l with
  | .inl e => ([], e.1, (e.2 : Int))
  | .inr xs => (xs, 0, -1)
theorem pr_long {l : List UInt8} (h : 3000 < l.length) : parseRes l = ([], 4, -1) := by unfold parseRes; rw [if_pos h]
theorem pr_bad {l : List UInt8} {n : Int} {m : Nat} (h : ¬3000 < l.length) (h' : parseL l = .inl (n, m)) : parseRes l = ([], n, (m : Int)) := by unfold parseRes; rw [if_neg h, h']
theorem pr_ok {l : List UInt8} {xs : List PChal} (h : ¬3000 < l.length) (h' : parseL l = .inr xs) : parseRes l = (xs, 0, -1) := by unfold parseRes; rw [if_neg h, h']
def ParsePost (w : World) (l : List UInt8) (e : Ending) (w' : World) : Prop :=
  ∃ lv x xs, e = .returned (.tuple #[lv, x]) ∧ Chals w' w.heap.size lv xs ∧ xs.map pcd = (parseRes l).1 ∧ ErrIs w' x (parseRes l).2.1 (parseRes l).2.2 ∧ Below w.heap.size w w'
theorem parse_end {l : List UInt8} {f k : Nat} {acc : List PChal} (h : l.length ≤ gapAt l k) : parseGo l (f + 1) k acc = .inr acc := by unfold parseGo; rw [if_pos h]
theorem parse_bad {l : List UInt8} {f k : Nat} {acc : List PChal} {e : Int × Nat} (h : ¬l.length ≤ gapAt l k) (h' : oneAt l (gapAt l k) acc.length = .inl e) : parseGo l (f + 1) k acc = .inl e := by unfold parseGo; rw [if_neg h, h']
theorem parse_go {l : List UInt8} {f k k' : Nat} {acc : List PChal} {x : PChal} (h : ¬l.length ≤ gapAt l k) (h' : oneAt l (gapAt l k) acc.length = .inr (k', x)) : parseGo l (f + 1) k acc = parseGo l f k' (acc ++ [x]) := by rw [parseGo, if_neg h, h']
theorem tokenOnA (w : World) (s : ByteArray) : Calls Tryd.prog 21 #[.string s] w fun e w' => e = .returned (.pointer (some ⟨w.heap.size, 0, none⟩)) ∧ w.alloc (.cells #[.string s, .int .i64 0] tC) = w' := by
  go_enter Tryd.func21, Tryd.ntmps21
  go_wp2
  go_ret
  exact ⟨rfl, rfl⟩
set_option maxRecDepth 100000 in
set_option maxHeartbeats 1000000 in
theorem askParse (s : ByteArray) (w : World) (hs : s.size ≤ 1000000) : Calls Tryd.prog 6 #[.string s] w (ParsePost w s.data.toList) := by
  have hs' : s.size ≤ 1099511627776 := by omega
  go_enter Tryd.func6, Tryd.ntmps6
  by_cases hl : 3000 < s.size
  · have hr := Lib.hid (pr_long (l := s.data.toList) (by rw [← sz_len]; exact hl))
    go_wp2
    go_ret2
    exact ⟨_, _, [], rfl, Chals.nil _ _, by rw [hr.out]; rfl, by rw [hr.out]; exact ErrIs.num _ 4, Below.refl _ _⟩
  · have hl' := Lib.hid (show ¬3000 < s.data.toList.length by rw [← sz_len]; exact hl)
    obtain ⟨c, hc⟩ : ∃ c, c = w.heap.size := ⟨_, rfl⟩
    obtain ⟨b, hb⟩ : ∃ b, b = c + 1 := ⟨_, rfl⟩
    obtain ⟨w2, hw2⟩ : ∃ w2, w2 = (w.alloc (Obj.cells #[.string s, .int .i64 0] 82)).alloc (Obj.cells #[.pointer (some ⟨c, 0, none⟩), .string s, .slice none 0 0] 64) := ⟨_, rfl⟩
    have hbc : c ≠ b := by omega
    have hC2 : CurAt tC w2 c s 0 := by rw [hw2, hc]; exact (Blk.new _ _ _).alloc _
    have hR2 : Blk w2 b #[.pointer (some ⟨c, 0, none⟩), .string s, .slice none 0 0] tRd := by
      rw [hw2, hb, hc]
      have := Blk.new (w.alloc (.cells #[.string s, .int .i64 0] tC)) #[.pointer (some ⟨w.heap.size, 0, none⟩), .string s, .slice none 0 0] tRd
      simpa using this
    have hL2 : Below w.heap.size w w2 := by rw [hw2]; exact ((Below.refl _ _).alloc (Nat.le_refl _) _).alloc (by simp) _
    have hz2 : w2.heap.size = b + 1 := by rw [hw2, hb, hc]; simp
    have hL2' := Lib.hid hL2
    have hon := tokenOnA w s
    have hga := fun w' lv k h h' hk => askGaps w' b c s k lv h h' hbc hs' hk
    have hga0 := hga w2 _ 0 hR2 hC2 (Nat.zero_le _)
    have hR2' := Lib.hid hR2
    clear hC2 hR2 hL2
    go_wp2_with fail
    refine hon.mono ?_
    rintro e w1 ⟨rfl, rfl⟩
    go_wp2_with fail
    subst hb hc
    rw [← hw2]
    clear hon hw2
    refine hga0.mono ?_
    rintro e w3 ⟨rfl, hC3, hG3⟩
    have hR3 := hR2'.out.grown hG3 (fun e => hbc (Option.some.inj e))
    have hL3 := below_only (hL2'.out) hG3 (by omega) (by omega)
    have hz3 := hG3.size
    have hC3' := Lib.hid hC3
    have hR3' := Lib.hid hR3
    have hL3' := Lib.hid hL3
    have hj0 : gapAt s.data.toList 0 ≤ s.size := by
      have := gapAt_le s.data.toList 0 (Nat.zero_le _)
      rw [← sz_len] at this
      exact this
    clear hga0 hC3 hR3 hL3 hG3
    go_wp2
    go_loopg [] (s.size + 1 - gapAt s.data.toList 0) (fun g wr => ∃ (k j f : Nat) (lv : Value) (xs : List PC), k ≤ s.size ∧ j ≤ s.size ∧ xs.length ≤ 8 ∧ w.heap.size + 1 + 1 ≤ wr.heap.size ∧ Hid (g = s.size + 1 - j) ∧ Hid (gapAt s.data.toList k = j) ∧ Hid (CurAt tC wr w.heap.size s j) ∧ Hid (Blk wr (w.heap.size + 1) #[.pointer (some ⟨w.heap.size, 0, none⟩), .string s, lv] tRd) ∧ Hid (Chals wr (w.heap.size + 1 + 1) lv xs) ∧ Hid (Below w.heap.size w wr) ∧ Hid (s.size < k + f ∧ parseL s.data.toList = parseGo s.data.toList f k (xs.map pcd)))
    case atStart => exact ⟨0, _, s.size + 1, .slice none 0 0, [], Nat.zero_le _, hj0, Nat.zero_le _, by omega, Lib.hid rfl, Lib.hid rfl, hC3', hR3', Lib.hid (Chals.nil _ _), hL3', Lib.hid ⟨by omega, by rw [sz_len]; rfl⟩⟩
    case round =>
      obtain ⟨k, j, f, lv, xs, hk, hj, hx8, hzr, hg, hgj, hC, hR, hX, hB, hinv⟩ := hrel
      clear hC3' hR3' hL3' hR2' hL2'
      obtain ⟨hf, hrs⟩ := hinv.out
      have hkj : k ≤ j := by rw [← hgj.out]; exact le_gapAt _ _
      obtain ⟨f', rfl⟩ : ∃ f', f = f' + 1 := ⟨f - 1, by omega⟩
      have hE := tokenEnd wr w.heap.size s j hC.out
      have c0 := hR.out.cell 0 rfl
      by_cases he : s.size ≤ j
      · rw [decide_eq_true he] at hE
        have hr := Lib.hid (pr_ok hl'.out (hrs.trans (parse_end (by rw [hgj.out, ← sz_len]; exact he))))
        obtain ⟨la, lcap, rfl, _, _, _, _⟩ := OwnG.shape encPC_len hX.out.row
        clear hrs hinv
        go_wp2_with fail
        refine hE.mono ?_
        rintro e w4 ⟨rfl, nq, rfl⟩
        have r2 := (hR.out.drewN nq).cell 2 rfl
        have hB4 := Lib.hid (below_drewN hB.out nq)
        have hX4 := Lib.hid ((hX.out.later (below_drewN (Below.refl _ _) nq)).base (show w.heap.size ≤ w.heap.size + 1 + 1 by omega))
        clear hE c0
        go_wp2
        go_ret2
        exact ⟨_, _, xs, rfl, hX4.out, by rw [hr.out], by rw [hr.out]; exact ErrIs.none _, hB4.out⟩
      · rw [decide_eq_false he] at hE
        have hne : ¬s.data.toList.length ≤ gapAt s.data.toList k := by rw [hgj.out, ← sz_len]; exact he
        have hone := fun w' h1 h2 h3 h4 => askOne w' (w.heap.size + 1) w.heap.size (w.heap.size + 1 + 1) s j lv xs h1 h2 h3 hbc (by omega) (by omega) h4 hx8 hs hj
        go_wp2_with fail
        refine hE.mono ?_
        rintro e w4 ⟨rfl, nq, rfl⟩
        have hR4 := Lib.hid (hR.out.drewN nq)
        have hC4 := Lib.hid (hC.out.drewN nq)
        have hX4 := Lib.hid (hX.out.later (below_drewN (Below.refl _ _) nq))
        have hB4 := Lib.hid (below_drewN hB.out nq)
        have ho := hone _ hR4.out hC4.out hX4.out hzr
        clear hE c0 hone
        cases h1 : oneAt s.data.toList j xs.length with
        | inl z =>
          obtain ⟨n, m⟩ := z
          unfold OnePost at ho
          simp only [h1] at ho
          have hr := Lib.hid (pr_bad hl'.out (hrs.trans (parse_bad hne (by rw [hgj.out, List.length_map]; exact h1))))
          clear h1 hrs hinv hne
          go_wp2_with fail
          refine ho.mono ?_
          rintro e w5 ⟨hO5, v, rfl, hE⟩
          obtain ⟨pe, rfl, he0, he1⟩ := hE
          have hB5 := Lib.hid (hO5.below hB4.out hB4.out.size (fun i e => by rcases e with e | e | e <;> omega))
          clear ho hO5
          go_wp2
          go_ret2
          exact ⟨_, _, [], rfl, Chals.nil _ _, by rw [hr.out]; rfl, by rw [hr.out]; exact ErrAt.is ⟨pe, rfl, he0, he1⟩, hB5.out⟩
        | inr z =>
          obtain ⟨k', x⟩ := z
          unfold OnePost at ho
          simp only [h1] at ho
          have hbd := oneAt_bd (by rw [← sz_len]; exact hj) hx8 h1
          simp only at hbd
          rw [← sz_len] at hbd
          obtain ⟨hb1, hb2, hb3⟩ := hbd
          have hr := Lib.hid (hrs.trans (parse_go hne (by rw [hgj.out, List.length_map]; exact h1)))
          obtain ⟨j', hj'⟩ : ∃ j', gapAt s.data.toList k' = j' := ⟨_, rfl⟩
          have hjk : k' ≤ j' := by rw [← hj']; exact le_gapAt _ _
          have hjs : j' ≤ s.size := by
            have := gapAt_le s.data.toList k' (by rw [← sz_len]; exact hb2)
            rw [hj', ← sz_len] at this
            exact this
          have hgk := fun w' lv h h' => hga w' lv k' h h' hb2
          rw [hj'] at hgk
          have hj'' := Lib.hid hj'
          clear h1 hrs hinv hne hj'
          go_wp2_with fail
          refine ho.mono ?_
          rintro e w5 ⟨hO5, rfl, hC5, lv5, y, hy, hR5, hX5⟩
          have hB5 := Lib.hid (hO5.below hB4.out hB4.out.size (fun i e => by rcases e with e | e | e <;> omega))
          have hz5 := hO5.size
          have hC5' := Lib.hid hC5
          have hR5' := Lib.hid hR5
          have hX5' := Lib.hid hX5
          have hy' := Lib.hid hy
          clear ho hO5 hC5 hR5 hX5 hy
          go_wp2_with fail
          refine (hgk _ _ hR5'.out hC5'.out).mono ?_
          rintro e w6 ⟨rfl, hC6, hG6⟩
          have hR6 := Lib.hid (hR5'.out.grown hG6 (fun e => hbc (Option.some.inj e)))
          have hX6 := Lib.hid (hX5'.out.keep (Only.of_grown (S := fun i => i = w.heap.size) hG6 (fun i e => by cases e; rfl)) (fun i e => .inl (by omega)))
          have hB6 := Lib.hid (below_only hB5.out hG6 hB5.out.size (by omega))
          have hC6' := Lib.hid hC6
          have hz6 := hG6.size
          clear hgk hC6 hG6
          go_wp2
          go_roundg (s.size + 1 - j')
          case rel => exact ⟨k', j', f', lv5, xs ++ [y], hb2, hjs, by simp; omega, Nat.le_trans hzr (Nat.le_trans hz5 hz6), Lib.hid rfl, hj'', hC6', hR6, hX6, hB6, Lib.hid ⟨by omega, by rw [hr.out, List.map_append, ← hy'.out]; rfl⟩⟩
          case measure => have := hg.out; omega
end Go.Proofs.YthmkilglidfdiaaDoor
