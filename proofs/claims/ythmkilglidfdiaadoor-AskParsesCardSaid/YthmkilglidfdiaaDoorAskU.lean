/- ask's reader: fail, param. -/
import Derived.Test.YthmkilglidfdiaaDoorAskS
import Derived.Test.YthmkilglidfdiaaDoorFound
import Derived.Deep.RegionWith
import Derived.Deep.DeepCutAuto
namespace Go.Proofs.YthmkilglidfdiaaDoor
open Go.RowKit

abbrev tCh : TypeId := 35
abbrev tPr : TypeId := 69
def pdat (ps : List (ByteArray × ByteArray)) : List PPar := ps.map fun p => (p.1.data.toList, p.2.data.toList)
theorem pdat_len (ps : List (ByteArray × ByteArray)) : (pdat ps).length = ps.length := by simp [pdat]
theorem pdat_snoc (ps : List (ByteArray × ByteArray)) (a b : ByteArray) : pdat (ps ++ [(a, b)]) = pdat ps ++ [(a.data.toList, b.data.toList)] := by simp [pdat]
abbrev OwnPr (w : World) (base : Nat) (v : Value) (ps : List (ByteArray × ByteArray)) : Prop := OwnG tPr 2 encPar w base v ps
theorem OwnG.row {α : Type} {T : TypeId} {n : Nat} {enc : α → List Value} (hlen : ∀ x, (enc x).length = n) {w : World} {base len cap : Nat} {a : Option Addr} {l : List α} (h : OwnG T n enc w base (.slice a len cap) l) : RowAt n enc w a l := by
  obtain ⟨a', cap', e, hr, _⟩ := OwnG.shape hlen h
  cases e
  exact hr
theorem parAt_of {w : World} {a : Option Addr} {ps : List (ByteArray × ByteArray)} (h : RowAt 2 encPar w a ps) : ParAt w a ps := by
  intro i hi
  obtain ⟨b, off, e, hc⟩ := h i hi
  exact ⟨b, off, e, hc 0 _ rfl, hc 1 _ rfl⟩
theorem any_hit {ps : List (ByteArray × ByteArray)} {X : ByteArray} {k : Nat} (hk : k < ps.length) (h : same ps[k].1 X = true) : (pdat ps).any (fun q => sameL q.1 X.data.toList) = true := by
  rw [List.any_eq_true]
  exact ⟨(ps[k].1.data.toList, ps[k].2.data.toList), List.mem_map.2 ⟨ps[k], List.getElem_mem hk, rfl⟩, h⟩
theorem any_miss {ps : List (ByteArray × ByteArray)} {X : ByteArray} (h : noneTo ps X ps.length) : (pdat ps).any (fun q => sameL q.1 X.data.toList) = false := by
  rw [List.any_eq_false]
  intro y hy
  obtain ⟨p, hp, rfl⟩ := List.mem_map.1 hy
  have := h p (by rw [List.take_length]; exact hp)
  simpa [sameL, same] using this

/-- the error x tells number n and place m -/
def ErrAt (w : World) (x : Value) (n m : Int) : Prop :=
  ∃ p, x = .iface 85 (.pointer (some ⟨p, 0, none⟩)) ∧ w.cell? ⟨p, 0, none⟩ = some (.int .i64 n) ∧ w.cell? ⟨p, 1, none⟩ = some (.int .i64 m)
theorem ErrAt.is {w : World} {x : Value} {n m : Int} (h : ErrAt w x n m) : ErrIs w x n m := .inr (.inr h)
set_option maxRecDepth 100000 in
theorem askFail (w : World) (b c : Nat) (s : ByteArray) (k : Nat) (lv : Value) (n : Int) (hR : Blk w b #[.pointer (some ⟨c, 0, none⟩), .string s, lv] tRd) (hC : CurAt tC w c s k) :
    Calls Tryd.prog 45 #[.pointer (some ⟨b, 0, none⟩), .int .i64 n] w fun e w' => (∃ x, e = .returned x ∧ ErrAt w' x n k) ∧ Below w.heap.size w w' := by
  have c0 := hR.cell 0 rfl
  have h1 := tokenAt w c s k hC
  clear hR hC
  go_enter Tryd.func45, Tryd.ntmps45
  go_wp2_with fail
  refine h1.mono ?_
  rintro e w1 ⟨rfl, rfl⟩
  go_wp2
  go_ret
  exact ⟨⟨_, rfl, _, rfl, new_cell _ _ _ _ 0 rfl rfl, new_cell _ _ _ _ 1 rfl rfl⟩, (Below.refl _ _).alloc (Nat.le_refl _) _⟩

theorem paramAt_bad {l : List UInt8} {k : Nat} (ps : List PPar) (h : wordL l k = [] ∨ markB l (blAt l (wEnd l k)) 61 = false) : paramAt l k ps = .inl (3, blAt l (wEnd l k)) := by
  unfold paramAt; simp only; rw [if_pos h]
def valAt (l : List UInt8) (k : Nat) : Option (List UInt8 × Nat) := if wordL l k = [] then quotedAt l k else some (wordL l k, wEnd l k)
theorem paramAt_none {l : List UInt8} {k : Nat} (ps : List PPar) (h : ¬(wordL l k = [] ∨ markB l (blAt l (wEnd l k)) 61 = false)) (hv : valAt l (blAt l (blAt l (wEnd l k) + 1)) = none) : paramAt l k ps = .inl (3, blAt l (blAt l (wEnd l k) + 1)) := by
  unfold paramAt; simp only; rw [if_neg h]
  unfold valAt at hv
  rw [hv]
theorem paramAt_some {l : List UInt8} {k : Nat} (ps : List PPar) {v : List UInt8} {k4 : Nat} (h : ¬(wordL l k = [] ∨ markB l (blAt l (wEnd l k)) 61 = false)) (hv : valAt l (blAt l (blAt l (wEnd l k) + 1)) = some (v, k4)) :
    paramAt l k ps = if ps.any (fun q => sameL q.1 (wordL l k)) = true then .inl (9, k) else if ps.length = 16 then .inl (4, k) else .inr (k4, ps ++ [(wordL l k, v)]) := by
  unfold paramAt; simp only; rw [if_neg h]
  unfold valAt at hv
  rw [hv]

/-- where a parameter is read: the reader, its cursor, the challenge's box, its parameters -/
structure PS (w : World) (b c q : Nat) (s sch tok : ByteArray) (lv pv : Value) (ps : List (ByteArray × ByteArray)) (k : Nat) (wx : World) : Prop where
  only : Only (fun i => i = c ∨ q ≤ i) w wx
  rd : Blk wx b #[.pointer (some ⟨c, 0, none⟩), .string s, lv] tRd
  cur : CurAt tC wx c s k
  box : Blk wx q #[.string sch, .string tok, pv] tCh
  own : OwnPr wx (q + 1) pv ps
section
variable {w wx w' : World} {b c q : Nat} {s sch tok : ByteArray} {lv pv : Value} {ps : List (ByteArray × ByteArray)} {k k' : Nat}
theorem PS.step {S : Nat → Prop} (h : PS w b c q s sch tok lv pv ps k wx) (hbq : b < q) (hcq : c < q) (ho : Only S wx w') (hS : ∀ i, S i → q < i ∧ ∀ g, pv.ownBlock = some g → g ≠ i) : PS w b c q s sch tok lv pv ps k w' :=
  ⟨h.only.trans (ho.mono (fun i hi => .inr (Nat.le_of_lt (hS i hi).1))), ho.blk h.rd (fun e => by have := (hS _ e).1; omega), ho.blk h.cur (fun e => by have := (hS _ e).1; omega),
   ho.blk h.box (fun e => by have := (hS _ e).1; omega), ho.own h.own (fun g hg e => (hS g e).2 g hg rfl)⟩
theorem PS.later (h : PS w b c q s sch tok lv pv ps k wx) (hbq : b < q) (hcq : c < q) (ho : Below wx.heap.size wx w') : PS w b c q s sch tok lv pv ps k w' :=
  h.step hbq hcq (Only.of_below (S := fun _ => False) ho) (fun _ e => e.elim)
theorem PS.turn (h : PS w b c q s sch tok lv pv ps k wx) (hbc : c ≠ b) (hcq : c < q) (hC : CurAt tC w' c s k') (hG : wx.grownBy w' (some c)) : PS w b c q s sch tok lv pv ps k' w' := by
  have ho : Only (fun i => i = c) wx w' := Only.of_grown hG (fun i e => by cases e; rfl)
  exact ⟨h.only.trans (ho.mono (fun i hi => .inl hi)), ho.blk h.rd (fun e => hbc e.symm), hC, ho.blk h.box (fun e => by omega), ho.own h.own (fun g hg e => by have := (h.own.lt g hg).1; omega)⟩
theorem PS.put (h : PS w b c q s sch tok lv pv ps k wx) (hbq : b < q) (hcq : c < q) {p : Nat} (hp : q < p) (hpv : ∀ g, pv.ownBlock = some g → g ≠ p) (i : Nat) (u : Value) : PS w b c q s sch tok lv pv ps k (wx.setCell ⟨p, i, none⟩ u) :=
  h.step hbq hcq (Only.set (S := fun i => i = p) (Only.refl _ _) (.inl rfl) u) (fun i hi => by subst hi; exact ⟨hp, hpv⟩)
end
def ParamPost (w : World) (c q : Nat) (s sch tok : ByteArray) (r : Res (Nat × List PPar)) (e : Ending) (w' : World) : Prop :=
  Only (fun i => i = c ∨ q ≤ i) w w' ∧ match r with
  | .inl x => ∃ v, e = .returned v ∧ ErrAt w' v x.1 x.2
  | .inr x => e = .returned .nilIface ∧ CurAt tC w' c s x.1 ∧ ∃ pv ps, pdat ps = x.2 ∧ Blk w' q #[.string sch, .string tok, pv] tCh ∧ OwnPr w' (q + 1) pv ps ∧ ∀ p ∈ ps, p.1.size ≤ 1000000 ∧ p.2.size ≤ 1000000
theorem ParamPost.bad {w w' : World} {c q : Nat} {s sch tok : ByteArray} {r : Res (Nat × List PPar)} {v : Value} {n : Int} {m : Nat} (h : r = .inl (n, m)) (ho : Only (fun i => i = c ∨ q ≤ i) w w') (he : ErrAt w' v n m) : ParamPost w c q s sch tok r (.returned v) w' := by
  subst h; exact ⟨ho, v, rfl, he⟩
theorem ParamPost.good {w w' : World} {c q : Nat} {s sch tok : ByteArray} {r : Res (Nat × List PPar)} {k : Nat} {l : List PPar} {pv : Value} {ps : List (ByteArray × ByteArray)} (h : r = .inr (k, l)) (ho : Only (fun i => i = c ∨ q ≤ i) w w') (hC : CurAt tC w' c s k) (hp : pdat ps = l)
    (hb : Blk w' q #[.string sch, .string tok, pv] tCh) (hO : OwnPr w' (q + 1) pv ps) (hz : ∀ p ∈ ps, p.1.size ≤ 1000000 ∧ p.2.size ≤ 1000000) : ParamPost w c q s sch tok r (.returned .nilIface) w' := by
  subst h; exact ⟨ho, rfl, hC, pv, ps, hp, hb, hO, hz⟩
theorem quoted_size {l : List UInt8} {k : Nat} {x : List UInt8 × Nat} (h : quotedAt l k = some x) : x.1.length ≤ l.length := (quotedAt_bd h).1
set_option maxRecDepth 100000 in
set_option maxHeartbeats 2000000 in
theorem askParam (w : World) (b c q : Nat) (s : ByteArray) (k : Nat) (lv : Value) (sch tok : ByteArray) (pv : Value) (ps : List (ByteArray × ByteArray)) (hR : Blk w b #[.pointer (some ⟨c, 0, none⟩), .string s, lv] tRd) (hC : CurAt tC w c s k)
    (hQ : Blk w q #[.string sch, .string tok, pv] tCh) (hO : OwnPr w (q + 1) pv ps) (hbc : c ≠ b) (hbq : b < q) (hcq : c < q) (hz : ∀ p ∈ ps, p.1.size ≤ 1000000 ∧ p.2.size ≤ 1000000) (hl : ps.length ≤ 16) (hs : s.size ≤ 1000000) (hk : k ≤ s.size) :
    Calls Tryd.prog 48 #[.pointer (some ⟨b, 0, none⟩), .pointer (some ⟨q, 0, none⟩)] w (ParamPost w c q s sch tok (paramAt s.data.toList k (pdat ps))) := by
  have hs' : s.size ≤ 1099511627776 := by omega
  have hP0 : PS w b c q s sch tok lv pv ps k w := ⟨Only.refl _ _, hR, hC, hQ, hO⟩
  have hpvw : ∀ g, pv.ownBlock = some g → g < w.heap.size := fun g hg => (hO.lt g hg).2
  have hqw := hQ.lt
  have h1 := tokenAt w c s k hC
  have h2 := tokenWord w c s k hC hs' hk
  have hle := wordAt_le s k hk
  obtain ⟨X, hX⟩ : ∃ X : ByteArray, X = ⟨(wordAt s k).toArray⟩ := ⟨_, rfl⟩
  have hXl : X.data.toList = wordL s.data.toList k := by rw [hX, mk_toList]; rfl
  have hXs : X.size ≤ 1000000 := by
    have : X.size = (wordAt s k).length := by rw [hX, mk_len]
    omega
  obtain ⟨j, hj⟩ : ∃ j, wEnd s.data.toList k = j := ⟨_, rfl⟩
  have hj2 : k + (wordAt s k).length = j := hj
  rw [hj2] at h2 hle
  rw [← hX] at h2
  have h3 := fun w' h => tokenBlanks w' c s j h hs' hle
  have hle2 := blanksN_le s j hle
  obtain ⟨j2, hj3⟩ : ∃ j2, blAt s.data.toList j = j2 := ⟨_, rfl⟩
  have hj4 : j + blanksN s j = j2 := hj3
  rw [hj4] at h3 hle2
  have e2 : blAt s.data.toList (wEnd s.data.toList k) = j2 := by rw [hj, hj3]
  have hbad := Lib.hid (fun h => paramAt_bad (l := s.data.toList) (k := k) (pdat ps) h)
  have hnone := Lib.hid (fun h hv => paramAt_none (l := s.data.toList) (k := k) (pdat ps) h hv)
  have hsome := Lib.hid (fun v k4 h hv => paramAt_some (l := s.data.toList) (k := k) (pdat ps) (v := v) (k4 := k4) h hv)
  rw [e2, ← hXl] at hbad hnone hsome
  rw [pdat_len] at hsome
  have hP0' := Lib.hid hP0
  have hzh := Lib.hid hz
  have c0 := hR.cell 0 rfl
  clear hR hj hj2 hj3 hj4 hC hX hXl hQ hO hP0 e2 hz
  generalize paramAt s.data.toList k (pdat ps) = res at hbad hnone hsome ⊢
  go_enter Tryd.func48, Tryd.ntmps48
  go_wp2_with fail
  refine h1.mono ?_
  rintro e w1 ⟨rfl, rfl⟩
  go_wp2_with fail
  refine h2.mono ?_
  rintro e w2 ⟨rfl, hC2, hG2⟩
  have hP2 := hP0'.out.turn hbc hcq hC2 hG2
  have hsz2 := hG2.size
  have hP3 := Lib.hid (hP2.later hbq hcq ((Below.refl _ _).alloc (Nat.le_refl _) (Obj.cells #[.string X, .string ⟨#[]⟩] tPr)))
  have hN3 := Lib.hid (Blk.new w2 #[.string X, .string ⟨#[]⟩] tPr)
  obtain ⟨p0, hp0⟩ : ∃ p0, p0 = w2.heap.size := ⟨_, rfl⟩
  have hq0 : q < p0 := by omega
  have hpv0 : ∀ g, pv.ownBlock = some g → g ≠ p0 := fun g hg => by have := hpvw g hg; omega
  have cc := hP3.out.rd.cell 0 rfl
  clear c0 h1 h2 hG2 hC2
  go_wp2_with fail
  refine (h3 _ hP3.out.cur).mono ?_
  rintro e w4 ⟨rfl, hC4, hG4⟩
  have hP4 := Lib.hid (hP3.out.turn hbc hcq hC4 hG4)
  have hN4 := Lib.hid (hN3.out.grown hG4 (by intro e; cases e; omega))
  rw [← hp0] at hN4 ⊢
  clear hp0 hG4 hC4 cc h3
  have cc := hP4.out.rd.cell 0 rfl
  have n0 := hN4.out.cell 0 rfl
  cases hXe : X.toList.isEmpty
  · have hXn : X.data.toList ≠ [] := by intro e; rw [Lib.toList_data, e] at hXe; cases hXe
    have hM := fun w' h => tokenMarkB w' c s j2 61 h hs'
    rw [show (((61 : UInt8).toNat : Nat) : Int) = 61 from rfl] at hM
    cases hm : markB s.data.toList j2 61
    · rw [hm, markTo_no hm] at hM
      have hr := Lib.hid (hbad.out (.inr hm))
      have hF := fun w' x h => askFail w' b c s j2 lv 3 x h
      clear hm hXn
      go_wp2_with fail
      refine (hM _ hP4.out.cur).mono ?_
      rintro e w5 ⟨rfl, hC5, hG5⟩
      have hP5 := Lib.hid (hP4.out.turn hbc hcq hC5 hG5)
      clear hM hC5 hG5
      go_wp2_with fail
      refine (hF _ hP5.out.rd hP5.out.cur).mono ?_
      rintro e w6 ⟨⟨x, rfl, hE⟩, hB6⟩
      clear hF
      go_wp2
      go_ret
      exact ParamPost.bad hr.out (hP5.out.only.then hB6) hE
    · rw [hm, markTo_yes hm] at hM
      have hlt := markB_lt hm
      rw [← sz_len] at hlt
      have hok : Hid (¬(X.data.toList = [] ∨ markB s.data.toList j2 61 = false)) := Lib.hid (by rw [hm]; simp [hXn])
      have h4 := fun w' h => tokenBlanks w' c s (j2 + 1) h hs' hlt
      have hle3 := blanksN_le s (j2 + 1) hlt
      obtain ⟨k3, hk3⟩ : ∃ k3, blAt s.data.toList (j2 + 1) = k3 := ⟨_, rfl⟩
      have hk32 : j2 + 1 + blanksN s (j2 + 1) = k3 := hk3
      rw [hk32] at h4 hle3
      have h5 := fun w' h => tokenWord w' c s k3 h hs' hle3
      have hle4 := wordAt_le s k3 hle3
      obtain ⟨Y, hY⟩ : ∃ Y : ByteArray, Y = ⟨(wordAt s k3).toArray⟩ := ⟨_, rfl⟩
      have hYl : Y.data.toList = wordL s.data.toList k3 := by rw [hY, mk_toList]; rfl
      have hYs : Y.size ≤ 1000000 := by
        have : Y.size = (wordAt s k3).length := by rw [hY, mk_len]
        omega
      obtain ⟨j4, hj4⟩ : ∃ j4, wEnd s.data.toList k3 = j4 := ⟨_, rfl⟩
      have hj42 : k3 + (wordAt s k3).length = j4 := hj4
      rw [hj42] at h5 hle4
      rw [← hY] at h5
      have hyes : Hid (Y.toList.isEmpty = false → valAt s.data.toList k3 = some (Y.data.toList, j4)) := Lib.hid (by
        intro h
        unfold valAt
        rw [if_neg (by rw [← hYl]; intro e; rw [Lib.toList_data, e] at h; cases h), hYl, hj4])
      have hemp : Hid (Y.toList.isEmpty = true → valAt s.data.toList k3 = quotedAt s.data.toList k3 ∧ j4 = k3) := Lib.hid (by
        intro h
        have h0 : wordL s.data.toList k3 = [] := by rw [← hYl]; rw [Lib.toList_data] at h; simpa using h
        unfold valAt
        refine ⟨by rw [if_pos h0], ?_⟩
        rw [← hj4]; unfold wEnd; rw [h0]; rfl)
      rw [hk3] at hnone hsome
      clear hm hXn hk3 hk32 hY hYl hj4 hj42 hbad
      go_wp2_with fail
      refine (hM _ hP4.out.cur).mono ?_
      rintro e w5 ⟨rfl, hC5, hG5⟩
      have hP5 := Lib.hid (hP4.out.turn hbc hcq hC5 hG5)
      have hN5 := Lib.hid (hN4.out.grown hG5 (by intro e; cases e; omega))
      have c5 := hP5.out.rd.cell 0 rfl
      clear hM hC5 hG5 cc n0
      go_wp2_with fail
      refine (h4 _ hP5.out.cur).mono ?_
      rintro e w6 ⟨rfl, hC6, hG6⟩
      have hP6 := Lib.hid (hP5.out.turn hbc hcq hC6 hG6)
      have hN6 := Lib.hid (hN5.out.grown hG6 (by intro e; cases e; omega))
      have c6 := hP6.out.rd.cell 0 rfl
      clear h4 hC6 hG6 c5
      go_wp2_with fail
      refine (h5 _ hP6.out.cur).mono ?_
      rintro e w7 ⟨rfl, hC7, hG7⟩
      have hP7 := Lib.hid (hP6.out.turn hbc hcq hC7 hG7)
      have hN7 := Lib.hid (hN6.out.grown hG7 (by intro e; cases e; omega))
      have c7 := hP7.out.rd.cell 0 rfl
      have n1 := hN7.out.cell 1 rfl
      have g1 := hN7.out.free 1
      clear h5 hC7 hG7 c6
      go_upto_if 52 with (fail)
      have hP8 := Lib.hid (hP7.out.put hbq hcq hq0 hpv0 1 (.string Y))
      have hN8 := Lib.hid (show Blk (w7.setCell ⟨p0, 1, none⟩ (.string Y)) p0 #[.string X, .string Y] tPr by simpa using hN7.out.set 1 (.string Y))
      go_cut [5] (fun s5 wx => s5 = .int .i64 k ∧ ∃ (V : ByteArray) (k4 : Nat), k4 ≤ s.size ∧ V.size ≤ 1000000 ∧ Hid (valAt s.data.toList k3 = some (V.data.toList, k4)) ∧ Hid (PS w1 b c q s sch tok lv pv ps k4 wx) ∧ Hid (Blk wx p0 #[.string X, .string V] tPr))
      case first =>
        cases hYe : Y.toList.isEmpty
        · have hv := Lib.hid (hyes.out hYe)
          clear n1 g1 c7
          go_wp2
          go_meet
          exact ⟨rfl, Y, j4, hle4, hYs, hv, hP8, hN8⟩
        · obtain ⟨hv0, rfl⟩ := hemp.out hYe
          have h6 := fun w' h => tokenQuoted w' c s j4 h hs' hle4
          unfold QPost at h6
          have c8 := hP8.out.rd.cell 0 rfl
          have hP8' := hP8
          have hN8' := hN8
          generalize hw8 : w7.setCell ⟨p0, 1, none⟩ (.string Y) = w8 at hP8 hN8 c8 ⊢
          clear n1 g1 c7 hw8
          cases hq : quotedAt s.data.toList j4 with
          | none =>
            simp only [hq] at h6
            have hr := Lib.hid (hnone.out hok.out (hv0.trans hq))
            have hF := fun w' x h => askFail w' b c s j4 lv 3 x h
            clear hq hv0
            go_wp2_with fail
            refine (h6 _ hP8.out.cur).mono ?_
            rintro e w9 ⟨rfl, hC9, hG9⟩
            have hP9 := Lib.hid (hP8.out.turn hbc hcq hC9 hG9)
            have hN9 := Lib.hid (hN8.out.grown hG9 (by intro e; cases e; omega))
            have n1 := hN9.out.cell 1 rfl
            have g1 := hN9.out.free 1
            have hPa := Lib.hid (hP9.out.put hbq hcq hq0 hpv0 1 (.string ⟨#[]⟩))
            clear h6 hC9 hG9
            go_wp2_with fail
            refine (hF _ hPa.out.rd hPa.out.cur).mono ?_
            rintro e wb ⟨⟨x, rfl, hE⟩, hBb⟩
            clear hF
            go_wp2
            go_ret
            exact ParamPost.bad hr.out (hPa.out.only.then hBb) hE
          | some z =>
            obtain ⟨v, k4⟩ := z
            simp only [hq] at h6
            have hbd := quotedAt_bd hq
            obtain ⟨V, hV⟩ : ∃ V : ByteArray, V = ⟨v.toArray⟩ := ⟨_, rfl⟩
            have hVl : V.data.toList = v := by rw [hV, mk_toList]
            have hVs : V.size ≤ 1000000 := by
              have := hbd.1
              rw [sz_len, hVl]
              rw [← sz_len] at this
              simp only at this
              omega
            have hk4 : k4 ≤ s.size := by rw [sz_len]; exact hbd.2.2
            have hv := Lib.hid (show valAt s.data.toList j4 = some (V.data.toList, k4) by rw [hv0, hq, hVl])
            rw [← hV] at h6
            clear hq hv0 hbd hV hVl
            go_wp2_with fail
            refine (h6 _ hP8.out.cur).mono ?_
            rintro e w9 ⟨rfl, hC9, hG9⟩
            have hP9 := Lib.hid (hP8.out.turn hbc hcq hC9 hG9)
            have hN9 := Lib.hid (hN8.out.grown hG9 (by intro e; cases e; omega))
            have n1 := hN9.out.cell 1 rfl
            have g1 := hN9.out.free 1
            have hPa := Lib.hid (hP9.out.put hbq hcq hq0 hpv0 1 (.string V))
            have hNa := Lib.hid (show Blk (w9.setCell ⟨p0, 1, none⟩ (.string V)) p0 #[.string X, .string V] tPr by simpa using hN9.out.set 1 (.string V))
            clear h6 hC9 hG9
            go_wp2
            go_meet
            exact ⟨rfl, V, k4, hk4, hVs, hv, hPa, hNa⟩
      case rest =>
        obtain ⟨rfl, V, k4, hk4, hVs, hv, hP, hN⟩ := hcut
        have hsm := Lib.hid (hsome.out V.data.toList k4 hok.out hv.out)
        clear hsome hnone hok hv hyes hemp hP8 hN8 n1 g1 c7 hP7 hN7 hP6 hN6 hP5 hN5
        obtain ⟨a, cap, rfl, _, hcap, hcm, _⟩ := OwnG.shape encPar_len hP.out.own
        have q2 := hP.out.box.cell 2 rfl
        go_wp2
        clear q2
        go_loopw [71] (fun vi wr => ∃ i : Nat, i ≤ ps.length ∧ vi = .int .i64 i ∧ Hid (PS w1 b c q s sch tok lv (.slice a ps.length cap) ps k4 wr) ∧ Hid (Blk wr p0 #[.string X, .string V] tPr) ∧ Hid (noneTo ps X i)) (fun vi _ => ps.length - (intOf vi).toNat)
        case atStart => exact ⟨0, Nat.zero_le _, rfl, hP, hN, Lib.hid (noneTo_zero _ _)⟩
        case round =>
          clear hP hN
          obtain ⟨i, hi, rfl, hPr, hNr, hno⟩ := hrel
          have n0 := hNr.out.cell 0 rfl
          by_cases hlt : i < ps.length
          · obtain ⟨bo, off, rfl, e1, e2⟩ := (parAt_of (OwnG.row encPar_len hPr.out.own)) i hlt
            have hs1 := (hzh.out _ (List.getElem_mem hlt)).1
            cases hb : same ps[i].1 X
            · have hn' := Lib.hid (noneTo_succ hno.out hlt hb)
              generalize ps[i].1 = u1 at hb e1 hs1
              generalize ps[i].2 = u2 at e2
              have hS := fun w' => tokenSame u1 X w' (by unfold maxLen; omega) (by unfold maxLen; omega)
              rw [hb] at hS
              have n0' : (wr.alloc (Obj.cells #[.string u1, .string u2] 69)).cell? ⟨p0, 0, none⟩ = some (.string X) := (hNr.out.alloc _).cell 0 rfl
              clear hb
              go_wp2_with fail
              refine (hS _).mono ?_
              rintro e w9 ⟨rfl, hB9⟩
              have hB0 := ((Below.refl wr.heap.size wr).alloc (Nat.le_refl _) (Obj.cells #[.string u1, .string u2] tPr)).then (by simp) hB9
              have hP9 := Lib.hid (hPr.out.later hbq hcq hB0)
              have hN9 := Lib.hid (hNr.out.later hB0)
              clear hS hB9 hB0
              go_wp2_with fail
              go_roundw
              case rel => exact ⟨i + 1, by omega, by go_num, hP9, hN9, hn'⟩
              case measure => simp [intOf]; omega
            · have hr := Lib.hid (hsm.out.trans (if_pos (any_hit hlt hb)))
              generalize ps[i].1 = u1 at hb e1 hs1
              generalize ps[i].2 = u2 at e2
              have hS := fun w' => tokenSame u1 X w' (by unfold maxLen; omega) (by unfold maxLen; omega)
              rw [hb] at hS
              have n0' : (wr.alloc (Obj.cells #[.string u1, .string u2] 69)).cell? ⟨p0, 0, none⟩ = some (.string X) := (hNr.out.alloc _).cell 0 rfl
              clear hb
              go_wp2_with fail
              refine (hS _).mono ?_
              rintro e w9 ⟨rfl, hB9⟩
              have hB0 := ((Below.refl wr.heap.size wr).alloc (Nat.le_refl _) (Obj.cells #[.string u1, .string u2] tPr)).then (by simp) hB9
              have hP9 := Lib.hid (hPr.out.later hbq hcq hB0)
              clear hS hB9 hB0
              go_wp2
              go_ret
              exact ParamPost.bad hr.out (hP9.out.only.alloc _) ⟨_, rfl, new_cell _ _ _ _ 0 rfl rfl, new_cell _ _ _ _ 1 rfl rfl⟩
          · obtain rfl : i = ps.length := by omega
            have hr0 := Lib.hid (hsm.out.trans (if_neg (by rw [any_miss hno.out]; simp)))
            have q2 := hPr.out.box.cell 2 rfl
            by_cases h16 : ps.length = 16
            · have hr := Lib.hid (hr0.out.trans (if_pos h16))
              have d16 : ((ps.length : Int) == 16) = true := by rw [h16]; rfl
              clear h16
              go_wp2
              go_ret
              exact ParamPost.bad hr.out (hPr.out.only.alloc _) ⟨_, rfl, new_cell _ _ _ _ 0 rfl rfl, new_cell _ _ _ _ 1 rfl rfl⟩
            · have hr := Lib.hid (hr0.out.trans (if_neg h16))
              have d16 : ((ps.length : Int) == 16) = false := beq_eq_false_iff_ne.2 (by omega)
              have n1 := hNr.out.cell 1 rfl
              have hl1 : ps.length + 1 ≤ maxLen := by unfold maxLen; omega
              have hl2 : (ps.length + 1) * 32 ≤ 140737488355328 := by omega
              have hPd := Lib.hid (hPr.out.later hbq hcq (Below.refl wr.heap.size wr).drew)
              have hbs : q + 1 ≤ wr.drew.heap.size := hPd.out.box.lt
              have hne : ∀ i, i ≤ q → (Value.slice a ps.length cap).ownBlock ≠ some i := fun i hi e => by have := (hPd.out.own.lt i e).1; omega
              have q2a : (wr.alloc (Obj.cells #[.string X, .string V] 69)).cell? ⟨q, 2, none⟩ = some (.slice a ps.length cap) := (hPr.out.box.alloc _).cell 2 rfl
              go_wp2_with fail
              go_region_law ((first
                | (refine step_append_one infoPar Tryd.underlying33 (by rfl) (by decide) encPar_len (by rfl) _ _ (by rfl) wr.drew (q + 1) _ ps (by rfl) hPd.out.own (X, V) (encPar_one _) _ (by rfl) _ (by rfl) (by rfl) hl1 hl2 hbs ?_; intro v6 w6 hO6 hG6; obtain ⟨a6, c6, hv6, _⟩ := OwnG.shape encPar_len hO6; generalize (ps ++ [(X, V)]).length = n6 at hv6; subst hv6; have hB6 := (hPd.out.box.alloc (.cells #[.string X, .string V] 69)).grown hG6 (hne q (Nat.le_refl _)); have q6 := hB6.cell 2 rfl; have f6 := hB6.free 2)
                | fail))
              all_goals
                go_wp2
                go_ret
                refine ParamPost.good (ps := ps ++ [(X, V)]) hr.out ?_ ?_ (pdat_snoc _ _ _) (show Blk _ q #[.string sch, .string tok, .slice a6 n6 c6] tCh by simpa using hB6.set 2 (.slice a6 n6 c6)) (Only.own (Only.set (S := fun i => i = q) (Only.refl _ _) (.inl rfl) _) hO6 (fun g hg e => by have := (hO6.lt g hg).1; omega)) ?_
                · exact (hPd.out.only.append hG6 (fun i e => .inl (.inr (by have := (hPd.out.own.lt i e).1; omega)))).set (.inl (.inr (Nat.le_refl _))) _
                · exact Blk.far (Blk.grown (Blk.alloc hPd.out.cur _) hG6 (hne c (by omega))) _ _ (by simp; omega)
                · intro p hp
                  rcases List.mem_append.1 hp with hp | hp
                  · exact hzh.out p hp
                  · cases List.mem_singleton.1 hp
                    exact ⟨hXs, hVs⟩
  · have hr := Lib.hid (hbad.out (.inl (by rw [Lib.toList_data] at hXe; simpa using hXe)))
    have hF := fun w' x h => askFail w' b c s j2 lv 3 x h
    go_wp2_with fail
    refine (hF _ hP4.out.rd hP4.out.cur).mono ?_
    rintro e w6 ⟨⟨x, rfl, hE⟩, hB6⟩
    clear hF
    go_wp2
    go_ret
    exact ParamPost.bad hr.out (hP4.out.only.then hB6) hE
end Go.Proofs.YthmkilglidfdiaaDoor
