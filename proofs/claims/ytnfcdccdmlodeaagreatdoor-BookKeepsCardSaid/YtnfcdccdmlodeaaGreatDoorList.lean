/- token.List: the words of a list. -/
import Derived.Test.YtnfcdccdmlodeaaGreatDoorListP
import Derived.Test.YtnfcdccdmlodeaaGreatDoorSplit
import Derived.Test.YtnfcdccdmlodeaaGreatDoorCurs
import Derived.Test.YtnfcdccdmlodeaaGreatDoorErrs
import Derived.Test.YtnfcdccdmlodeaaGreatDoorFound
namespace Go.Proofs.YtnfcdccdmlodeaaGreatDoor
open Go.RowKit

def listL (l : List UInt8) : (List (List UInt8)) ⊕ Nat := listP (cutL 44 l) 0 []
/-- a list's words, and the error: its number, its place -/
def listRes (l : List UInt8) : List (List UInt8) × Int × Int := match listL l with
  | .inr k => ([], 3, (k : Int))
  | .inl ws => if 40 < ws.length then ([], 4, -1) else (ws, 0, -1)
theorem listRes_bad {l : List UInt8} {k : Nat} (h : listL l = .inr k) : listRes l = ([], 3, (k : Int)) := by unfold listRes; rw [h]
theorem listRes_many {l : List UInt8} {ws : List (List UInt8)} (h : listL l = .inl ws) (h' : 40 < ws.length) : listRes l = ([], 4, -1) := by unfold listRes; rw [h]; simp [h']
theorem listRes_ok {l : List UInt8} {ws : List (List UInt8)} (h : listL l = .inl ws) (h' : ¬40 < ws.length) : listRes l = (ws, 0, -1) := by unfold listRes; rw [h]; simp [h']
def ListPost (w : World) (l : List UInt8) (e : Ending) (w' : World) : Prop :=
  ∃ v x ss, e = .returned (.tuple #[v, x]) ∧ OwnStr w' w.heap.size v ss ∧ datas ss = (listRes l).1 ∧ ErrIs w' x (listRes l).2.1 (listRes l).2.2 ∧ ((listRes l).2.1 = 0 → x = .nilIface) ∧ Below w.heap.size w w'
theorem OwnStr.turned {w w' : World} {base p : Nat} {v : Value} {ss : List ByteArray} (h : OwnStr w base v ss) (hg : w.grownBy w' (some p)) (hp : p < base) : OwnStr w' base v ss := by
  refine World.ownsRow.kept h hg ?_
  cases hv : v.ownBlock with
  | none => exact .inl rfl
  | some k =>
    right
    have := (World.ownsRow.lt h k hv).1
    intro e
    cases e
    omega
theorem CurAt.grown' {T : TypeId} {w w' : World} {p : Nat} {s : ByteArray} {k : Nat} {row : Option Nat} (h : CurAt T w p s k) (hg : w.grownBy w' row) (hne : row ≠ some p) : CurAt T w' p s k := Blk.grown h hg hne
theorem OwnStr.base {w : World} {b b' : Nat} {v : Value} {ss : List ByteArray} (h : OwnStr w b' v ss) (hb : b ≤ b') : OwnStr w b v ss := ownsRow_base h hb
set_option maxRecDepth 100000 in
theorem tokenOn' (w : World) (s : ByteArray) : Calls Tryz.prog 174 #[.string s] w fun e w' => e = .returned (.pointer (some ⟨w.heap.size, 0, none⟩)) ∧ w.alloc (.cells #[.string s, .int .i64 0] tC) = w' := by
  go_enter Tryz.func174, Tryz.ntmps174
  go_wp2
  go_ret
  exact ⟨rfl, rfl⟩
theorem OwnStr.base' {w : World} {b : Nat} {v : Value} {ss : List ByteArray} (h : OwnStr w (b + 1) v ss) : w.ownsRow b 9 1 v ss.length (ss.map Value.string) := ownsRow_base h (Nat.le_succ _)
/-- one piece, where the cursor stands -/
theorem list_step (l : List UInt8) (k : Nat) (hk : k ≤ l.length) : ∃ p ps k3, cutL 44 (l.drop k) = p :: ps ∧ wordOf p = spanAt tokB l (k + (spanAt isBl l k).length) ∧
    (∃ k1 k2, k1 = k + (spanAt isBl l k).length ∧ k2 = k1 + (spanAt tokB l k1).length ∧ k3 = (if wordOf p = [] then k1 else k2 + (spanAt isBl l k2).length)) ∧ k ≤ k3 ∧ k3 ≤ l.length ∧ k3 = k + (p.length - (restOf p).length) ∧
    ((restOf p = [] ∧ ps = [] ∧ k3 = l.length) ∨ (restOf p = [] ∧ k3 < l.length ∧ l[k3]? = some 44 ∧ ps = cutL 44 (l.drop (k3 + 1)) ∧ k + p.length + 1 = k3 + 1) ∨ (restOf p ≠ [] ∧ k3 < l.length ∧ l[k3]? ≠ some 44)) := by
  obtain ⟨p, ps, h1, h2, h3, h4⟩ := list_prog (l.drop k)
  obtain ⟨k1, hk1⟩ : ∃ k1, k1 = k + (spanAt isBl l k).length := ⟨_, rfl⟩
  obtain ⟨k2, hk2⟩ : ∃ k2, k2 = k1 + (spanAt tokB l k1).length := ⟨_, rfl⟩
  have d1 : l.drop k1 = (l.drop k).dropWhile isBl := by rw [hk1]; exact takeW_drop isBl l k
  have d2 : l.drop k2 = ((l.drop k).dropWhile isBl).dropWhile tokB := by rw [hk2, takeW_drop, d1]
  have hw : wordOf p = spanAt tokB l k1 := by rw [h2]; unfold spanAt; rw [d1]
  have b1 := spanAt_len isBl l k
  have b2 := spanAt_len tokB l k1
  have b3 := spanAt_len isBl l k2
  obtain ⟨k3, hk3⟩ : ∃ k3, k3 = (if wordOf p = [] then k1 else k2 + (spanAt isBl l k2).length) := ⟨_, rfl⟩
  have hle : k ≤ k3 ∧ k3 ≤ l.length := by rw [hk3]; split <;> omega
  have d3 : l.drop k3 = thirdOf (l.drop k) := by
    rw [hk3]; unfold thirdOf
    split
    · rename_i h0
      rw [h2] at h0
      have e2 : ((l.drop k).dropWhile isBl).dropWhile tokB = (l.drop k).dropWhile isBl := by
        have := @List.takeWhile_append_dropWhile _ tokB ((l.drop k).dropWhile isBl)
        rw [h0] at this
        exact this
      rw [e2, d1]
      cases hq : (l.drop k).dropWhile isBl with
      | nil => rfl
      | cons a r => rw [List.dropWhile_cons, if_neg (by simp [dropWhile_head hq])]
    · rw [takeW_drop, d2]
  have hl3 : (thirdOf (l.drop k)).length = l.length - k3 := by rw [← d3, List.length_drop]
  rw [List.length_drop, hl3] at h3
  refine ⟨p, ps, k3, h1, by rw [hw, hk1], ⟨k1, k2, hk1, hk2, hk3⟩, hle.1, hle.2, by omega, ?_⟩
  rcases h4 with ⟨r0, r1, r2, r3⟩ | ⟨r0, r', r1, r2, r3⟩ | ⟨r0, c, t, r1, r2⟩
  · rw [r2, List.length_nil] at hl3
    exact .inl ⟨r0, r1, by omega⟩
  · have hlt : k3 < l.length := by rw [r1, List.length_cons] at hl3; omega
    have e : l.drop k3 = 44 :: r' := d3.trans r1
    rw [List.drop_eq_getElem_cons hlt] at e
    obtain ⟨e1, e2⟩ := List.cons.inj e
    rw [List.length_drop] at r3
    have e3 := congrArg List.length e2
    rw [List.length_drop] at e3
    exact .inr (.inl ⟨r0, hlt, by rw [List.getElem?_eq_getElem hlt, e1], by rw [r2, e2], by omega⟩)
  · have hlt : k3 < l.length := by rw [r1, List.length_cons] at hl3; omega
    have e : l.drop k3 = c :: t := d3.trans r1
    rw [List.drop_eq_getElem_cons hlt] at e
    obtain ⟨e1, _⟩ := List.cons.inj e
    refine .inr (.inr ⟨r0, hlt, ?_⟩)
    rw [List.getElem?_eq_getElem hlt, e1]
    intro h; exact r2 (Option.some.inj h)
theorem datas_snoc (ss : List ByteArray) (W : ByteArray) (ws : List UInt8) (h : W.data.toList = ws) : datas (ss ++ [W]) = datas ss ++ [ws] := by
  unfold datas; rw [List.map_append, ← h]; rfl
theorem listP_go {p : List UInt8} {ps : List (List UInt8)} {k : Nat} {acc : List (List UInt8)} (h : restOf p = []) : listP (p :: ps) k acc = listP ps (k + p.length + 1) (if wordOf p = [] then acc else acc ++ [wordOf p]) := by
  rw [listP, if_pos h]
theorem listP_bad {p : List UInt8} {ps : List (List UInt8)} {k : Nat} {acc : List (List UInt8)} (h : restOf p ≠ []) : listP (p :: ps) k acc = .inr (k + (p.length - (restOf p).length)) := by
  rw [listP, if_neg h]

set_option maxRecDepth 100000 in
set_option maxHeartbeats 1000000 in
theorem tokenList (s : ByteArray) (w : World) (hs : s.size ≤ 1000000) :
    Calls Tryz.prog 253 #[.string s] w (ListPost w s.data.toList) := by
  have hs' : s.size ≤ 1099511627776 := by omega
  go_enter Tryz.func253, Tryz.ntmps253
  go_wp2_with fail
  refine (tokenOn' _ _).mono ?_
  rintro e w1 ⟨rfl, rfl⟩
  have hC0 : CurAt tC (w.alloc (.cells #[.string s, .int .i64 0] tC)) w.heap.size s 0 := Blk.new _ _ _
  have hB0 := (Below.refl w.heap.size w).alloc (Nat.le_refl _) (.cells #[.string s, .int .i64 0] tC)
  go_wp2
  go_loopg [4] (s.size + 1) (fun g v wr => ∃ (k : Nat) (ss : List ByteArray), k ≤ s.size ∧ ss.length ≤ k ∧ Hid (g = s.size + 1 - k) ∧ Hid (CurAt tC wr w.heap.size s k) ∧ Hid (OwnStr wr (w.heap.size + 1) v ss) ∧ Hid (Below w.heap.size w wr) ∧ Hid (listL s.data.toList = listP (cutL 44 (s.data.toList.drop k)) k (datas ss)))
  case atStart => exact ⟨0, [], Nat.zero_le _, Nat.le_refl _, Lib.hid rfl, Lib.hid hC0, Lib.hid (OwnStr.nil _ _), Lib.hid hB0, Lib.hid rfl⟩
  case round =>
    clear hC0 hB0
    obtain ⟨k, ss, hk, hsl, hg, hC, hO, hB, hinv⟩ := hrel
    obtain ⟨p, ps, k3, q1, q2, ⟨k1, k2, hk1, hk2, hk3⟩, hk13, hk33, q5, q6⟩ := list_step s.data.toList k (by rw [← sz_len]; exact hk)
    rw [← sz_len] at hk33
    have e1 : k + blanksN s k = k1 := hk1.symm
    have hk1s : k1 ≤ s.size := by have := blanksN_le s k hk; omega
    have e2 : k1 + (wordAt s k1).length = k2 := hk2.symm
    have hk2s : k2 ≤ s.size := by have := wordAt_le s k1 hk1s; omega
    have ew : wordAt s k1 = wordOf p := by rw [q2, ← hk1]; rfl
    have h1 := tokenBlanks wr _ s k hC.out hs' hk
    rw [e1] at h1
    have hq := Lib.hid (And.intro q1 (And.intro q2 (And.intro hk1 (And.intro hk2 (And.intro hk3 (And.intro q5 (And.intro e1 (And.intro e2 ew))))))))
    have h2 := fun w1 hC1 => tokenWord w1 w.heap.size s k1 hC1 hs' hk1s
    obtain ⟨X, hX⟩ : ∃ X : ByteArray, X = ⟨(wordAt s k1).toArray⟩ := ⟨_, rfl⟩
    rw [e2, ← hX] at h2
    have hXl : Hid (X.data.toList = wordOf p) := Lib.hid (by rw [hX, mk_toList, ew])
    have q6' := Lib.hid q6
    clear q1 q2 hk1 hk2 hk3 q5 q6 e1 e2 ew hX
    go_wp2_with fail
    refine h1.mono ?_
    rintro e w1 ⟨rfl, hC1, hG1⟩
    have hO1 := hO.out.turned hG1 (Nat.lt_succ_self _)
    have hB1 := below_only hB.out hG1 hB.out.size (Nat.le_refl _)
    go_wp2_with fail
    refine (h2 _ hC1).mono ?_
    rintro e w2 ⟨rfl, hC2, hG2⟩
    have hO2 := hO1.turned hG2 (Nat.lt_succ_self _)
    have hB2 := below_only hB1 hG2 hB1.size (Nat.le_refl _)
    clear h1 h2
    by_cases hw : wordOf p = []
    · have hXe : X.toList.isEmpty = true := by rw [Lib.toList_data, hXl.out, hw]; rfl
      have hC3 : CurAt tC w2 w.heap.size s k3 := by
        have h5 := hq.out.2.2.2.2.1
        have h6 := hq.out.2.2.2.2.2.2.2.1
        rw [if_pos hw] at h5
        have h7 : (wordAt s k1).length = 0 := by rw [hq.out.2.2.2.2.2.2.2.2, hw]; rfl
        rw [show k3 = k2 by omega]; exact hC2
      have hO3 := hO2
      have hB3 := Lib.hid hB2
      have hd3 : Hid (datas ss = if wordOf p = [] then datas ss else datas ss ++ [wordOf p]) := Lib.hid (by rw [if_pos hw])
      have hs3 : ss.length ≤ k3 + 1 := by omega
      clear hC2 hO2 hB2 hC1 hO1 hB1 hw
      obtain ⟨a3, cap3, rfl, hS3, hcap3, hcm3, _⟩ := hO3.shape
      have hO3' := Lib.hid hO3
      clear hO3
      have hE := tokenEnd w2 w.heap.size s k3 hC3
      rcases q6'.out with ⟨z1, z2, z3⟩ | ⟨z1, z2, z3, z4, z5⟩ | ⟨z1, z2, z3⟩
      · have hfin : Hid (listL s.data.toList = .inl (datas ss)) := Lib.hid (by rw [hinv.out, hq.out.1, listP_go z1, z2, ← hd3.out]; rfl)
        have hend : decide (s.size ≤ k3) = true := by rw [← sz_len] at z3; simpa using Nat.le_of_eq z3.symm
        rw [hend] at hE
        have hdl : (datas ss).length = ss.length := by simp [datas]
        clear z1 z2 z3 hend hC3
        by_cases h40 : 40 < ss.length
        · have hres : Hid (listRes s.data.toList = ([], 4, -1)) := Lib.hid (listRes_many hfin.out (by omega))
          clear hdl
          go_wp2_with fail
          refine hE.mono ?_
          rintro e w4 ⟨rfl, nq, rfl⟩
          have hB4 := Lib.hid (below_drewN hB3.out nq)
          go_wp2
          go_ret2
          exact ⟨_, _, [], rfl, OwnStr.nil _ _, by rw [hres.out]; rfl, by rw [hres.out]; exact ErrIs.num _ 4, (fun h => by rw [hres.out] at h; cases h), hB4.out⟩
        · have hres : Hid (listRes s.data.toList = (datas ss, 0, -1)) := Lib.hid (listRes_ok hfin.out (by omega))
          clear hdl
          go_wp2_with fail
          refine hE.mono ?_
          rintro e w4 ⟨rfl, nq, rfl⟩
          have hB4 := Lib.hid (below_drewN hB3.out nq)
          go_wp2
          go_ret2
          exact ⟨_, _, ss, rfl, (hO3'.out.later (below_drewN (Below.refl _ _) nq)).base (Nat.le_succ _), by rw [hres.out], by rw [hres.out]; exact ErrIs.none _, fun _ => rfl, hB4.out⟩
      · have hnext : Hid (listL s.data.toList = listP (cutL 44 (s.data.toList.drop (k3 + 1))) (k3 + 1) (datas ss)) := Lib.hid (by rw [hinv.out, hq.out.1, listP_go z1, z4, z5, ← hd3.out])
        rw [← sz_len] at z2
        have hend : decide (s.size ≤ k3) = false := by simpa using z2
        rw [hend] at hE
        have hM := fun w4 hC4 => tokenMark_yes w4 w.heap.size s k3 44 hC4 hs' z2 (by
          rw [List.getElem?_eq_getElem (by rw [← sz_len]; exact z2), at_list s k3 z2 (by rw [← sz_len]; exact z2)] at z3
          exact Option.some.inj z3)
        rw [show (((44 : UInt8).toNat : Nat) : Int) = 44 from rfl] at hM
        clear z1 z3 z4 z5 hend
        go_wp2_with fail
        refine hE.mono ?_
        rintro e w4 ⟨rfl, nq, rfl⟩
        have hC4 := hC3.drewN nq
        go_wp2_with fail
        refine (hM _ hC4).mono ?_
        rintro e w5 ⟨rfl, hC5, hG5⟩
        have hO5 : Hid (OwnStr w5 (w.heap.size + 1) (.slice a3 ss.length cap3) ss) := Lib.hid ((hO3'.out.later (below_drewN (Below.refl _ _) nq)).turned hG5 (Nat.lt_succ_self _))
        have hB5 : Hid (Below w.heap.size w w5) := Lib.hid (below_only (below_drewN hB3.out nq) hG5 (below_drewN hB3.out nq).size (Nat.le_refl _))
        have hC5' := Lib.hid hC5
        clear hC5 hC4 hC3
        go_wp2
        go_roundg (s.size + 1 - (k3 + 1))
        case rel => exact ⟨k3 + 1, ss, by omega, hs3, Lib.hid rfl, hC5', hO5, hB5, hnext⟩
        case measure => have := hg.out; omega
      · have hfin : Hid (listL s.data.toList = .inr k3) := Lib.hid (by rw [hinv.out, hq.out.1, listP_bad z1, ← hq.out.2.2.2.2.2.1])
        have hres : Hid (listRes s.data.toList = ([], 3, (k3 : Int))) := Lib.hid (listRes_bad hfin.out)
        rw [← sz_len] at z2
        have hend : decide (s.size ≤ k3) = false := by simpa using z2
        rw [hend] at hE
        have hM := fun w4 hC4 => tokenMark_no w4 w.heap.size s k3 44 hC4 hs' (by
          intro h h'
          apply z3
          rw [List.getElem?_eq_getElem (by rw [← sz_len]; exact z2), at_list s k3 z2 (by rw [← sz_len]; exact z2), h'])
        rw [show (((44 : UInt8).toNat : Nat) : Int) = 44 from rfl] at hM
        clear z1 z3 hend
        go_wp2_with fail
        refine hE.mono ?_
        rintro e w4 ⟨rfl, nq, rfl⟩
        have hC4 := hC3.drewN nq
        go_wp2_with fail
        refine (hM _ hC4).mono ?_
        rintro e w5 ⟨rfl, hC5, hG5⟩
        have hB5 : Hid (Below w.heap.size w w5) := Lib.hid (below_only (below_drewN hB3.out nq) hG5 (below_drewN hB3.out nq).size (Nat.le_refl _))
        have c1 := hC5.c1
        have hsz5 := hB5.out.size
        clear hC4 hC3 hC5 hM hE
        go_wp2
        go_region_with (fail)
        all_goals
          go_wp2
          go_ret2
          refine ⟨_, _, [], rfl, OwnStr.nil _ _, by rw [hres.out]; rfl, ?_, (fun h => by rw [hres.out] at h; cases h), (below_drewN hB5.out _).alloc (by simpa using hsz5) _⟩
          rw [hres.out]
          exact .inr (.inr ⟨_, rfl, new_cell _ _ _ _ 0 rfl rfl, new_cell _ _ _ _ 1 rfl rfl⟩)
    · have hXe : X.toList.isEmpty = false := by
        rw [Lib.toList_data, hXl.out]
        cases hw2 : wordOf p with
        | nil => exact absurd hw2 hw
        | cons c r => rfl
      have h3 := fun w3 hC => tokenBlanks w3 w.heap.size s k2 hC hs' hk2s
      rw [show k2 + blanksN s k2 = k3 by
        have h5 := hq.out.2.2.2.2.1
        rw [if_neg hw] at h5
        exact h5.symm] at h3
      have hw' := Lib.hid hw
      clear hC1 hO1 hB1 hw
      have hcl : ss.length + 1 ≤ 1099511627776 := by omega
      have hbs : w.heap.size + 1 ≤ w2.heap.size := CurAt.lt hC2
      go_wp2_with (at_builtin; refine wpList_append_str rfl _ _ rfl _ (w.heap.size + 1) _ ss rfl ?_ X _ rfl ?_ ?_ ?_ ?_; exact hO2; exact rfl; exact hcl; exact hbs; intro v3 w4 hO4 hG4)
      have hC4 : CurAt tC w4 w.heap.size s k2 := (hC2.later ((Below.refl _ _).alloc (Nat.le_refl _) _)).grown' hG4 (by
        intro e
        have := (World.ownsRow.lt hO2 w.heap.size e).1
        omega)
      have hB4 : Hid (Below w.heap.size w w4) := Lib.hid (below_append hB2 hO2.base' hG4 hB2.size)
      go_wp2_with fail
      refine (h3 _ hC4).mono ?_
      rintro e w5 ⟨rfl, hC3, hG5⟩
      have hO3 := hO4.turned hG5 (Nat.lt_succ_self _)
      have hB3 : Hid (Below w.heap.size w w5) := Lib.hid (below_only hB4.out hG5 hB4.out.size (Nat.le_refl _))
      obtain ⟨ss3, hss3⟩ : ∃ ss3, ss3 = ss ++ [X] := ⟨_, rfl⟩
      have hd3 : Hid (datas ss3 = if wordOf p = [] then datas ss else datas ss ++ [wordOf p]) := Lib.hid (by rw [if_neg hw'.out, hss3]; exact datas_snoc _ _ _ hXl.out)
      have hs3 : ss3.length ≤ k3 + 1 := by rw [hss3]; simp; omega
      rw [← hss3] at hO3
      clear hC2 hO2 hB2 hC4 hO4 h3 hss3
      obtain ⟨a3, cap3, rfl, hS3, hcap3, hcm3, _⟩ := hO3.shape
      have hO3' := Lib.hid hO3
      clear hO3
      have hE := tokenEnd w5 w.heap.size s k3 hC3
      rcases q6'.out with ⟨z1, z2, z3⟩ | ⟨z1, z2, z3, z4, z5⟩ | ⟨z1, z2, z3⟩
      · have hfin : Hid (listL s.data.toList = .inl (datas ss3)) := Lib.hid (by rw [hinv.out, hq.out.1, listP_go z1, z2, ← hd3.out]; rfl)
        have hend : decide (s.size ≤ k3) = true := by rw [← sz_len] at z3; simpa using Nat.le_of_eq z3.symm
        rw [hend] at hE
        have hdl : (datas ss3).length = ss3.length := by simp [datas]
        clear z1 z2 z3 hend hC3
        by_cases h40 : 40 < ss3.length
        · have hres : Hid (listRes s.data.toList = ([], 4, -1)) := Lib.hid (listRes_many hfin.out (by omega))
          clear hdl
          go_wp2_with fail
          refine hE.mono ?_
          rintro e w6 ⟨rfl, nq, rfl⟩
          have hB6 := Lib.hid (below_drewN hB3.out nq)
          go_wp2
          go_ret2
          exact ⟨_, _, [], rfl, OwnStr.nil _ _, by rw [hres.out]; rfl, by rw [hres.out]; exact ErrIs.num _ 4, (fun h => by rw [hres.out] at h; cases h), hB6.out⟩
        · have hres : Hid (listRes s.data.toList = (datas ss3, 0, -1)) := Lib.hid (listRes_ok hfin.out (by omega))
          clear hdl
          go_wp2_with fail
          refine hE.mono ?_
          rintro e w6 ⟨rfl, nq, rfl⟩
          have hB6 := Lib.hid (below_drewN hB3.out nq)
          go_wp2
          go_ret2
          exact ⟨_, _, ss3, rfl, (hO3'.out.later (below_drewN (Below.refl _ _) nq)).base (Nat.le_succ _), by rw [hres.out], by rw [hres.out]; exact ErrIs.none _, fun _ => rfl, hB6.out⟩
      · have hnext : Hid (listL s.data.toList = listP (cutL 44 (s.data.toList.drop (k3 + 1))) (k3 + 1) (datas ss3)) := Lib.hid (by rw [hinv.out, hq.out.1, listP_go z1, z4, z5, ← hd3.out])
        rw [← sz_len] at z2
        have hend : decide (s.size ≤ k3) = false := by simpa using z2
        rw [hend] at hE
        have hM := fun w6 hC6 => tokenMark_yes w6 w.heap.size s k3 44 hC6 hs' z2 (by
          rw [List.getElem?_eq_getElem (by rw [← sz_len]; exact z2), at_list s k3 z2 (by rw [← sz_len]; exact z2)] at z3
          exact Option.some.inj z3)
        rw [show (((44 : UInt8).toNat : Nat) : Int) = 44 from rfl] at hM
        clear z1 z3 z4 z5 hend
        go_wp2_with fail
        refine hE.mono ?_
        rintro e w6 ⟨rfl, nq, rfl⟩
        have hC6 := hC3.drewN nq
        go_wp2_with fail
        refine (hM _ hC6).mono ?_
        rintro e w5 ⟨rfl, hC5, hG5⟩
        have hO5 : Hid (OwnStr w5 (w.heap.size + 1) (.slice a3 ss3.length cap3) ss3) := Lib.hid ((hO3'.out.later (below_drewN (Below.refl _ _) nq)).turned hG5 (Nat.lt_succ_self _))
        have hB5 : Hid (Below w.heap.size w w5) := Lib.hid (below_only (below_drewN hB3.out nq) hG5 (below_drewN hB3.out nq).size (Nat.le_refl _))
        have hC5' := Lib.hid hC5
        clear hC5 hC6 hC3
        go_wp2
        go_roundg (s.size + 1 - (k3 + 1))
        case rel => exact ⟨k3 + 1, ss3, by omega, hs3, Lib.hid rfl, hC5', hO5, hB5, hnext⟩
        case measure => have := hg.out; omega
      · have hfin : Hid (listL s.data.toList = .inr k3) := Lib.hid (by rw [hinv.out, hq.out.1, listP_bad z1, ← hq.out.2.2.2.2.2.1])
        have hres : Hid (listRes s.data.toList = ([], 3, (k3 : Int))) := Lib.hid (listRes_bad hfin.out)
        rw [← sz_len] at z2
        have hend : decide (s.size ≤ k3) = false := by simpa using z2
        rw [hend] at hE
        have hM := fun w6 hC6 => tokenMark_no w6 w.heap.size s k3 44 hC6 hs' (by
          intro h h'
          apply z3
          rw [List.getElem?_eq_getElem (by rw [← sz_len]; exact z2), at_list s k3 z2 (by rw [← sz_len]; exact z2), h'])
        rw [show (((44 : UInt8).toNat : Nat) : Int) = 44 from rfl] at hM
        clear z1 z3 hend
        go_wp2_with fail
        refine hE.mono ?_
        rintro e w6 ⟨rfl, nq, rfl⟩
        have hC6 := hC3.drewN nq
        go_wp2_with fail
        refine (hM _ hC6).mono ?_
        rintro e w5 ⟨rfl, hC5, hG5⟩
        have hB5 : Hid (Below w.heap.size w w5) := Lib.hid (below_only (below_drewN hB3.out nq) hG5 (below_drewN hB3.out nq).size (Nat.le_refl _))
        have c1 := hC5.c1
        have hsz5 := hB5.out.size
        clear hC6 hC3 hC5 hM hE
        go_wp2
        go_region_with (fail)
        all_goals
          go_wp2
          go_ret2
          refine ⟨_, _, [], rfl, OwnStr.nil _ _, by rw [hres.out]; rfl, ?_, (fun h => by rw [hres.out] at h; cases h), (below_drewN hB5.out _).alloc (by simpa using hsz5) _⟩
          rw [hres.out]
          exact .inr (.inr ⟨_, rfl, new_cell _ _ _ _ 0 rfl rfl, new_cell _ _ _ _ 1 rfl rfl⟩)
end Go.Proofs.YtnfcdccdmlodeaaGreatDoor
