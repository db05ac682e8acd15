/- The reference's bank: without, Drop, Put, Get. -/
import Derived.Test.YtchgpdgigpaloaaDoorLoG
import Derived.Test.YtchgpdgigpaloaaDoorLoV
import Derived.Test.YtchgpdgigpaloaaDoorBankI
namespace Go.Proofs.YtchgpdgigpaloaaDoor
set_option linter.unusedSimpArgs false
open Go.RowKit Go.Deep
abbrev tRBk : TypeId := 30
theorem infoRBk : (Tryd.prog.info? tRBk).map (·.size) = some 2 := by kernel_rfl
theorem undRBk : Tryd.prog.underlying tRBk = some (.struct ((match Tryd.prog.underlying tRBk with | some (.struct fs) => fs | _ => #[]))) := by kernel_rfl
theorem infoWaitsR : (Tryd.prog.info? 28).map (·.size) = some 1 := by kernel_rfl
theorem infoGrantsR : (Tryd.prog.info? 24).map (·.size) = some 1 := by kernel_rfl
/-- a store of a whole block, in a drawn region -/
theorem step_put_blk {P : Program} {ops : Array Oper} {o : Oper} {a : Act} {K : Act → World → Prop} {Q : Exit → Act → World → Prop} {E : Prop} {w : World} {cs : Array Value} {T : TypeId} (hgd : o.guard = none) (ty : TypeId) (x y : Operand) (ho : o.op = .store ty x y)
    (b : Nat) (hx : a.eval x = .pointer (some ⟨b, 0, none⟩)) (hb : Blk w b cs T) (vs : Array Value) (hy : a.eval y = .agg vs) (hs : vs.size = cs.size) (hi : (P.info? ty).map (·.size) = some vs.size) (h1 : vs.all (·.oneCell') = true)
    (h : ∀ w', Blk w' b vs T → w.grownBy w' (some b) → K (a.put o.dst undef) w') : if Region.wanted o (yielded ops a.tmps) = true then Oper.wp P o a w K Q else E := by
  have hw : Region.wanted o (yielded ops a.tmps) = true := by simp [Region.wanted, hgd]
  rw [if_pos hw]
  exact wp_store_mid ty x y ho b 0 vs hx hy (by rw [hs]; exact hb.there) hi h1 (h _ (hb.all vs hs) (only_setCells b vs.toList 0 w))
theorem OwnG.past {α : Type} {T : TypeId} {n : Nat} {enc : α → List Value} {w w' : World} {B b : Nat} {v : Value} {l : List α} (h : OwnG T n enc w B v l) (hg : w.grownBy w' (some b)) (hb : b < B) : OwnG T n enc w' B v l :=
  h.kept (Only.of_grown (S := fun i => i = b) hg (fun i e => (Option.some.inj e).symm)) (fun g e1 e2 => by have := (h.lt g e1).1; omega)
theorem gfilter_yes {α : Type} {f : α → Bool} {ps : List α} {k : Nat} (h : k < ps.length) (e : f ps[k] = true) : (ps.take (k + 1)).filter f = (ps.take k).filter f ++ [ps[k]] := by
  rw [List.take_succ_eq_append_getElem h, List.filter_append]; simp [e]
theorem gfilter_no {α : Type} {f : α → Bool} {ps : List α} {k : Nat} (h : k < ps.length) (e : f ps[k] = false) : (ps.take (k + 1)).filter f = (ps.take k).filter f := by
  rw [List.take_succ_eq_append_getElem h, List.filter_append]; simp [e]
/-- a function value that tells of each of these whether it is such, and writes nothing old -/
def PredG (g : Nat) (lb : Array Value) (f : Gra → Bool) (ps : List Gra) (w : World) : Prop := ∀ (W : World) (x : Gra), Below w.heap.size w W → x ∈ ps → Calls Tryd.prog g (#[.agg x.arr] ++ lb) W fun e w' => e = .returned (.bool (f x)) ∧ Below W.heap.size W w'
set_option maxRecDepth 100000 in
set_option maxHeartbeats 4000000 in
theorem refWithout (g : Nat) (lb : Array Value) (f : Gra → Bool) (a : Option Addr) (cap : Nat) (ps : List Gra) (w : World) (hS : RowAt 16 encGra w a ps) (hl : ps.length ≤ 1048576) (eg : ∀ args w, (callFunc g args).run Tryd.prog w = .ok (.enter g args) w) (hp : PredG g lb f ps w) :
    Calls Tryd.prog 36 #[.slice a ps.length cap, .func (.func g) #[] lb] w fun e w' => (∃ v, e = .returned v ∧ OwnG tGra 16 encGra w' w.heap.size v (ps.filter (fun x => !f x))) ∧ Below w.heap.size w w' := by
  go_enter Tryd.func36, Tryd.ntmps36
  go_wp2
  go_loopw [5, 10] (fun v5 vi wr => ∃ k : Nat, k ≤ ps.length ∧ vi = .int .i64 k ∧ Hid (OwnG tGra 16 encGra wr w.heap.size v5 ((ps.take k).filter (fun x => !f x))) ∧ Hid (Below w.heap.size w wr)) (fun _ vi _ => ps.length - (intOf vi).toNat)
  case atStart => exact ⟨0, Nat.zero_le _, rfl, Lib.hid (OwnG.nil _ _), Lib.hid (Below.refl _ _)⟩
  case round =>
    obtain ⟨k, hk, rfl, hO, hB⟩ := hrel
    obtain ⟨a5, cap5, rfl, hs5⟩ := OwnG.shape encGra_len hO.out
    clear hs5
    by_cases hlt : k < ps.length
    · obtain ⟨b, off, rfl, hc⟩ := (hS.later hB.out) k hlt
      have hrg : wr.rangeAt b (off + k * 16) (encGra ps[k]) := hc
      have hpk := fun wa h => hp wa _ h (List.getElem_mem hlt)
      have hy := Lib.hid (gfilter_yes (f := fun x => !f x) hlt)
      have hn := Lib.hid (gfilter_no (f := fun x => !f x) hlt)
      have hlen : ((ps.take k).filter (fun x => !f x)).length ≤ 1048576 := Nat.le_trans (List.length_filter_le _ _) (by rw [List.length_take]; omega)
      have hZ := Blk.new wr zGra tGra
      have hbs := hB.out.size
      clear hc
      generalize ps[k] = x at hrg hpk hy hn
      generalize (ps.take k).filter (fun x => !f x) = acc at hO hy hn hlen
      have hl1 : acc.length + 1 ≤ maxLen := by unfold maxLen; omega
      have hl2 : (acc.length + 1) * 216 ≤ 140737488355328 := by omega
      cases hq : f x
      · have hy' := Lib.hid (hy.out (by simp [hq]))
        simp only [hq] at hpk
        clear hq hy hn
        go_wp2_with (first
          | (refine wpList_load_mid rfl tGra _ rfl b (off + k * 16) rfl (encGra x) _ hrg undGra rfl infoGra ?_)
          | (refine wpList_store_blk rfl tGra _ _ rfl _ rfl hZ x.arr rfl rfl infoGra (gra_one x) ?_; intro wa hpas hga; have hBa := Lib.hid (below_only (hB.out.alloc hbs (.cells zGra tGra)) hga (by simp; omega) hbs); have hOa := Lib.hid ((OwnG.later hO.out ((Below.refl _ _).alloc (Nat.le_refl _) (.cells zGra tGra))).kept (Only.of_grown (S := fun i => i = wr.heap.size) hga (fun i e => (Option.some.inj e).symm)) (fun g e1 e2 => by have := (hO.out.lt g e1).2; omega)); have hpk2 := hpk wa hBa.out)
          | (refine wpList_load_blk rfl tGra _ rfl _ rfl hpas _ undGra rfl infoGra ?_)
          | (go_at_fn g; refine hpk2.mono ?_; rintro e w2 ⟨rfl, hB2⟩; have hpas2 := hpas.later hB2; have hO2 := OwnG.later hOa.out hB2; have hB3 := Lib.hid (hBa.out.then (Nat.le_refl _) hB2); have hbs3 := hB3.out.size)
          | (refine wpList_load_blk rfl tGra _ rfl _ rfl hpas2 _ undGra rfl infoGra ?_)
          | (at_builtin; refine wpList_append_one wholeGD Tryd.underlying24 (by rfl) (by decide) encGra_len (by rfl) _ _ (by rfl) w2 w.heap.size (.slice a5 acc.length cap5) acc (by rfl) hO2 x (encGra_one _) _ (by rfl) _ (by rfl) (by rfl) hl1 hl2 hbs3 ?_; intro v4 w4 hO4 hG4 hne4))
        have hB4 := Lib.hid (below_append hB3.out hO2 hG4 hB3.out.size)
        have hO4' := Lib.hid hO4
        go_roundw
        case rel => exact ⟨k + 1, by omega, by go_num, Lib.hid (by rw [hy'.out]; exact hO4'.out), hB4⟩
        case measure => simp [intOf]; omega
      · have hn' := Lib.hid (hn.out (by simp [hq]))
        simp only [hq] at hpk
        clear hq hy hn
        go_wp2_with (first
          | (refine wpList_load_mid rfl tGra _ rfl b (off + k * 16) rfl (encGra x) _ hrg undGra rfl infoGra ?_)
          | (refine wpList_store_blk rfl tGra _ _ rfl _ rfl hZ x.arr rfl rfl infoGra (gra_one x) ?_; intro wa hpas hga; have hBa := Lib.hid (below_only (hB.out.alloc hbs (.cells zGra tGra)) hga (by simp; omega) hbs); have hOa := Lib.hid ((OwnG.later hO.out ((Below.refl _ _).alloc (Nat.le_refl _) (.cells zGra tGra))).kept (Only.of_grown (S := fun i => i = wr.heap.size) hga (fun i e => (Option.some.inj e).symm)) (fun g e1 e2 => by have := (hO.out.lt g e1).2; omega)); have hpk2 := hpk wa hBa.out)
          | (refine wpList_load_blk rfl tGra _ rfl _ rfl hpas _ undGra rfl infoGra ?_)
          | (go_at_fn g; refine hpk2.mono ?_; rintro e w2 ⟨rfl, hB2⟩))
        have hO2 := Lib.hid (OwnG.later hOa.out hB2)
        have hB3 := Lib.hid (hBa.out.then (Nat.le_refl _) hB2)
        go_roundw
        case rel => exact ⟨k + 1, by omega, by go_num, Lib.hid (by rw [hn'.out]; exact hO2.out), hB3⟩
        case measure => simp [intOf]; omega
    · obtain rfl : ps.length = k := by omega
      have hf := hO
      rw [List.take_length] at hf ⊢
      go_wp2
      go_ret
      exact ⟨⟨_, rfl, hf.out⟩, hB.out⟩
set_option maxRecDepth 100000 in
set_option maxHeartbeats 4000000 in
theorem refDrop1 (g : Gra) (o : Org) (p : Bool) (r : ByteArray) (q0 q1 q2 : Nat) (w : World) (h0 : Blk w q0 (orgArr o) 32) (h1 : Blk w q1 #[.bool p] 4) (h2 : Blk w q2 #[.string r] 9) :
    Calls Tryd.prog 37 #[.agg g.arr, .pointer (some ⟨q0, 0, none⟩), .pointer (some ⟨q1, 0, none⟩), .pointer (some ⟨q2, 0, none⟩)] w fun e w' => e = .returned (.bool (keyG o p r g.d)) ∧ Below w.heap.size w w' := by
  have hal := Lib.hid ((Below.refl w.heap.size w).alloc (Nat.le_refl _) (.cells g.arr tGra))
  have hq0 := h0.later hal.out
  have c1 : _ = some (Value.bool p) := (h1.later hal.out).cell 0 rfl
  have c2 : _ = some (Value.string r) := (h2.later hal.out).cell 0 rfl
  have he := fun w => org_eql g.orig o w
  have hk : keyG o p r g.d = (orgE g.orig o && (g.proxy == p) && (g.ask.d.realm.toList == r.toList)) := rfl
  rw [hk]
  clear hk h0 h1 h2
  obtain ⟨⟨s1, g1, p1⟩, proxy, user, pass, ⟨⟨sc, realm, nonce, opq, sess, qop, stale, dom⟩, ad, cp⟩, count, paths, ad2, cp2⟩ := g
  obtain ⟨so, ho, po⟩ := o
  simp only at he ⊢
  generalize orgE ⟨s1, g1, p1⟩ ⟨so, ho, po⟩ = r1 at he ⊢
  cases r1 <;> cases proxy <;> cases p
  all_goals
    go_enter Tryd.func37, Tryd.ntmps37
    go_wp2_with (first
      | ((with_reducible show wpList _ _ _ ({ dst := _, op := Op.binOp _ _ _ _ _, type := _, pos := _, after := _, guard := _ } :: _) _ _); refine wpList_eql_agg _ rfl .eql 32 32 _ _ rfl #[.bool s1, .string g1, .int .i64 p1] #[.bool so, .string ho, .int .i64 po] (by rfl) (by rfl) noGuardOrg _ (he _) ?_)
      | (refine wpList_load_blk rfl 32 _ rfl _ rfl hq0 _ Tryd.underlying32 rfl infoOrgB ?_))
    go_ret
    exact ⟨by first | rfl | simp, hal.out⟩
set_option maxRecDepth 100000 in
set_option maxHeartbeats 4000000 in
theorem refSweepG (g : Gra) (o : Org) (q0 : Nat) (w : World) (h0 : Blk w q0 (orgArr o) 32) :
    Calls Tryd.prog 44 #[.agg g.arr, .pointer (some ⟨q0, 0, none⟩)] w fun e w' => e = .returned (.bool (orgE g.orig o)) ∧ Below w.heap.size w w' := by
  have hal := Lib.hid ((Below.refl w.heap.size w).alloc (Nat.le_refl _) (.cells g.arr tGra))
  have hq0 := h0.later hal.out
  have he := fun w => org_eql g.orig o w
  clear h0
  obtain ⟨⟨s1, g1, p1⟩, proxy, user, pass, ⟨⟨sc, realm, nonce, opq, sess, qop, stale, dom⟩, ad, cp⟩, count, paths, ad2, cp2⟩ := g
  obtain ⟨so, ho, po⟩ := o
  simp only at he ⊢
  generalize orgE ⟨s1, g1, p1⟩ ⟨so, ho, po⟩ = r1 at he ⊢
  go_enter Tryd.func44, Tryd.ntmps44
  go_wp2_with (first
    | ((with_reducible show wpList _ _ _ ({ dst := _, op := Op.binOp _ _ _ _ _, type := _, pos := _, after := _, guard := _ } :: _) _ _); refine wpList_eql_agg _ rfl .eql 32 32 _ _ rfl #[.bool s1, .string g1, .int .i64 p1] #[.bool so, .string ho, .int .i64 po] (by rfl) (by rfl) noGuardOrg _ (he _) ?_)
    | (refine wpList_load_blk rfl 32 _ rfl _ rfl hq0 _ Tryd.underlying32 rfl infoOrgB ?_))
  go_ret
  exact ⟨rfl, hal.out⟩
/-- the bank that is left: its grants in a row of the call's own -/
def RbG (l : List Gra) (wa : Option Addr) (wn wc : Nat) (w : World) (e : Ending) (w' : World) : Prop := (∃ v, e = .returned (.agg #[v, .slice wa wn wc]) ∧ OwnG tGra 16 encGra w' w.heap.size v l) ∧ Below w.heap.size w w'
set_option maxRecDepth 100000 in
set_option maxHeartbeats 4000000 in
theorem refBankDrop (a : Option Addr) (cap : Nat) (Gs : List Gra) (wa : Option Addr) (wn wc : Nat) (o : Org) (p : Bool) (r : ByteArray) (w : World) (hS : RowAt 16 encGra w a Gs) (hl : Gs.length ≤ 1048576) :
    Calls Tryd.prog 10 #[.agg #[.slice a Gs.length cap, .slice wa wn wc], .agg (orgArr o), .bool p, .string r] w (RbG (Gs.filter (fun x => !keyG o p r x.d)) wa wn wc w) := by
  have hal : Below w.heap.size w (((((w.alloc (.cells #[.slice a Gs.length cap, .slice wa wn wc] tRBk)).alloc (.cells (orgArr o) 32)).alloc (.cells #[.bool p] 4)).alloc (.cells #[.string r] 9)).alloc (.cells #[.slice none 0 0, .slice none 0 0] tRBk)) := ((((((Below.refl w.heap.size w).alloc (by simp; try omega) (.cells #[.slice a Gs.length cap, .slice wa wn wc] tRBk)).alloc (by simp; try omega) (.cells (orgArr o) 32)).alloc (by simp; try omega) (.cells #[.bool p] 4)).alloc (by simp; try omega) (.cells #[.string r] 9)).alloc (by simp; try omega) (.cells #[.slice none 0 0, .slice none 0 0] tRBk))
  have hqb := (((((Blk.new w #[.slice a Gs.length cap, .slice wa wn wc] tRBk).alloc (.cells (orgArr o) 32)).alloc (.cells #[.bool p] 4)).alloc (.cells #[.string r] 9)).alloc (.cells #[.slice none 0 0, .slice none 0 0] tRBk))
  have hq0 := ((((Blk.new (w.alloc (.cells #[.slice a Gs.length cap, .slice wa wn wc] tRBk)) (orgArr o) 32).alloc (.cells #[.bool p] 4)).alloc (.cells #[.string r] 9)).alloc (.cells #[.slice none 0 0, .slice none 0 0] tRBk))
  have hq1 := (((Blk.new ((w.alloc (.cells #[.slice a Gs.length cap, .slice wa wn wc] tRBk)).alloc (.cells (orgArr o) 32)) #[.bool p] 4).alloc (.cells #[.string r] 9)).alloc (.cells #[.slice none 0 0, .slice none 0 0] tRBk))
  have hq2 := ((Blk.new (((w.alloc (.cells #[.slice a Gs.length cap, .slice wa wn wc] tRBk)).alloc (.cells (orgArr o) 32)).alloc (.cells #[.bool p] 4)) #[.string r] 9).alloc (.cells #[.slice none 0 0, .slice none 0 0] tRBk))
  have hqz := (Blk.new ((((w.alloc (.cells #[.slice a Gs.length cap, .slice wa wn wc] tRBk)).alloc (.cells (orgArr o) 32)).alloc (.cells #[.bool p] 4)).alloc (.cells #[.string r] 9)) #[.slice none 0 0, .slice none 0 0] tRBk)
  simp only [World.size_alloc] at hq0 hq1 hq2 hqz
  have hsmK := fun w5 hS hq0 hq1 hq2 => refWithout 37 #[.pointer (some ⟨w.heap.size + 1, 0, none⟩), .pointer (some ⟨w.heap.size + 1 + 1, 0, none⟩), .pointer (some ⟨w.heap.size + 1 + 1 + 1, 0, none⟩)] (fun x => keyG o p r x.d) a cap Gs w5 hS hl (fun _ _ => rfl) (fun W x hb _ => refDrop1 x o p r _ _ _ W (Blk.later hq0 hb) (Blk.later hq1 hb) (Blk.later hq2 hb))
  generalize Gs.filter (fun x => !keyG o p r x.d) = l2 at hsmK ⊢
  go_enter Tryd.func10, Tryd.ntmps10
  go_upto_region 1 with (fail)
  generalize (((((w.alloc (.cells #[.slice a Gs.length cap, .slice wa wn wc] tRBk)).alloc (.cells (orgArr o) 32)).alloc (.cells #[.bool p] 4)).alloc (.cells #[.string r] 9)).alloc (.cells #[.slice none 0 0, .slice none 0 0] tRBk)) = w5 at hal hqb hq0 hq1 hq2 hqz ⊢
  have hsm := hsmK w5 (hS.later hal) hq0 hq1 hq2
  clear hsmK
  have c0 : _ = some (Value.slice a Gs.length cap) := hqb.cell 0 rfl
  have halH := Lib.hid hal
  have hzl := hqz.lt
  clear hq0 hq1 hq2 hS hal
  go_wp2_with fail
  refine hsm.mono ?_
  rintro e w6 ⟨⟨v, rfl, hO⟩, hB6⟩
  obtain ⟨a2, c2, rfl, _⟩ := OwnG.shape encGra_len hO
  have hqb6 := hqb.later hB6
  have hqz6 := hqz.later hB6
  have hB06 := Lib.hid (halH.out.then (Nat.le_refl _) hB6)
  have hOh := Lib.hid hO
  clear hO hB6 hsm c0 hqb hqz
  go_upto_region 2 with (refine wpList_store_cell rfl _ _ _ (by rfl) w.heap.size 0 (by rfl) hqb6 (by decide : 0 < 2) (.slice a2 l2.length c2) (by rfl) (by rfl) (by rfl) infoGrantsR ?_; intro w7 hb7 hg7)
  have hb7' : Blk w7 w.heap.size #[.slice a2 l2.length c2, .slice wa wn wc] tRBk := hb7
  have hqz7 := hqz6.grown hg7 (fun e => by have := Option.some.inj e; omega)
  have hO7 := Lib.hid (hOh.out.past hg7 (by omega))
  have hB07 := Lib.hid (below_only hB06.out hg7 hB06.out.size (Nat.le_refl _))
  clear hb7 hqz6 hqb6 hg7
  go_wp2_with (first
    | (refine wpList_load_blk rfl tRBk _ rfl _ rfl hb7' _ undRBk rfl infoRBk ?_)
    | (refine wpList_store_blk rfl tRBk _ _ rfl _ rfl hqz7 #[.slice a2 l2.length c2, .slice wa wn wc] rfl rfl infoRBk (by simp [Value.oneCell']) ?_; intro w8 hb8 hg8))
  refine bodyPost_ret (v := .agg #[.slice a2 l2.length c2, .slice wa wn wc]) ?_ rfl ?_
  · exact results_cell1 8 tRBk (w.heap.size + 1 + 1 + 1 + 1) Tryd.results10 rfl (loadG_blk hb8 undRBk rfl infoRBk)
  · have hO8 := hO7.out.past hg8 (by omega)
    exact ⟨⟨_, rfl, hO8.base (fun g e => Nat.le_trans halH.out.size (hO8.lt g e).1)⟩, below_only hB07.out hg8 hB07.out.size (by omega)⟩
end Go.Proofs.YtchgpdgigpaloaaDoor
