/- The program's bank: Use. -/
import Derived.Test.YtchgpdgigpaloaaDoorBankJ
namespace Go.Proofs.YtchgpdgigpaloaaDoor
set_option linter.unusedSimpArgs false
open Go.RowKit Go.Deep
def errV (n : Int) : Value := if n = 0 then .nilIface else .iface 48 (.int .i64 n)
def UsePost (o : Org) (p : Bool) (path : ByteArray) (b : Nat) (S : Nat → Prop) (gs : List GraD) (ws : List WaiD) (w : World) (e : Ending) (w' : World) : Prop :=
  ∃ g' : Gra, GotG (bankUse o p path gs).2.1 w w' g' ∧ e = .returned (.tuple #[.agg g'.arr, errV (bankUse o p path gs).2.2]) ∧ BankR w' b (grow S w w') (bankUse o p path gs).1 ws ∧ OnlyT S w w'
theorem ask_inG {w4 w6 : World} {b : Nat} {S4 : Nat → Prop} {vg vw : Value} {Gs : List Gra} {Ws : List Wai} {x' : Gra} (hX : BankX w4 b S4 vg vw Gs Ws) (hov : Only (fun i => vg.ownBlock = some i) w4 w6) (hx' : x'.In w4 S4) : ∀ y ∈ Gs ++ [x'], y.In w6 (grow S4 w4 w6) := by
  intro y hy
  have h1 : y.In w4 S4 := by
    rcases List.mem_append.1 hy with h | h
    · exact hX.ing y h
    · rw [List.mem_singleton.1 h]; exact hx'
  exact (h1.own (by decide) hX.og hov).mono (fun i hi => ⟨.inl hi, Nat.lt_of_lt_of_le (hX.bd i hi) hov.size⟩)
theorem bankUse_no {o : Org} {p : Bool} {path : ByteArray} {gs : List GraD} (h : findB o p path gs < 0) : bankUse o p path gs = (gs, graZero, 8) := by
  unfold bankUse
  cases hq : gs[(findB o p path gs).toNat]? with
  | none => rfl
  | some g => simp [h]
theorem bankUse_yes {o : Org} {p : Bool} {path : ByteArray} {gs : List GraD} {k : Nat} (h : findB o p path gs = (k : Int)) (hk : k < gs.length) : bankUse o p path gs = if 4294967295 ≤ gs[k].count then (gs.take k ++ gs.drop (k + 1), graZero, 12) else ((gs.take k ++ gs.drop (k + 1)) ++ [gs[k].more], gs[k].more, 0) := by
  unfold bankUse
  rw [h]
  have e1 : gs[((k : Int)).toNat]? = some gs[k] := by simp [hk]
  have e2 : gs.eraseIdx ((k : Int)).toNat = gs.take k ++ gs.drop (k + 1) := by rw [List.eraseIdx_eq_take_drop_succ]; rfl
  have e3 : ¬ ((k : Int) < 0) := by omega
  simp only [e1, e2, if_neg e3]
set_option maxRecDepth 100000 in
set_option maxHeartbeats 4000000 in
theorem bankUseP (b : Nat) (S : Nat → Prop) (gs : List GraD) (ws : List WaiD) (o : Org) (p : Bool) (path : ByteArray) (w : World) (hB : BankR w b S gs ws) (hl : gs.length ≤ 1000) :
    Calls Tryd.prog 6 #[.pointer (some ⟨b, 0, none⟩), .agg (orgArr o), .bool p, .string path] w (UsePost o p path b S gs ws w) := by
  have hokG := Lib.hid hB.okG
  have hokW := Lib.hid hB.okW
  have hfi := bankFind b S gs ws o p path
  have hBH := Lib.hid hB
  have hBl := Lib.hid hB
  clear hB
  have hal := Lib.hid (((Below.refl w.heap.size w).alloc (Nat.le_refl _) (.cells (orgArr o) 32)).alloc (by simp) (.cells zGra tGra))
  have hq0 := Lib.hid ((Blk.new w (orgArr o) 32).alloc (.cells zGra tGra))
  have hz0 := Lib.hid (show Blk ((w.alloc (.cells (orgArr o) 32)).alloc (.cells zGra tGra)) (w.heap.size + 1) zGra tGra by have := Blk.new (w.alloc (.cells (orgArr o) 32)) zGra tGra; rwa [World.size_alloc] at this)
  go_enter Tryd.func6, Tryd.ntmps6
  go_wp2_with fail
  refine (hfi _ (hBH.out.later hal.out) (by omega)).mono ?_
  rintro e w2 ⟨rfl, hB2⟩
  have hal2 := Lib.hid (hal.out.then (Nat.le_refl _) hB2)
  have hz2 := hz0.out.later hB2
  have hz2h := Lib.hid hz2
  have hr := findB_range o p path gs
  have hX2 := Lib.hid (hBH.out.later hal2.out)
  generalize hff : findB o p path gs = i at hr
  have hffH := Lib.hid hff
  clear hff hfi hB2
  by_cases hneg : i < 0
  · go_wp2_with (refine wpList_store_blk rfl tGra _ _ rfl _ rfl hz2 zGra rfl rfl infoGra (by simp [Value.oneCell']) ?_; intro w6 hb6 hg6)
    have hn := Lib.hid (bankUse_no (o := o) (p := p) (path := path) (gs := gs) (by rw [hffH.out]; exact hneg))
    have ho4 : Only (fun i => i = w.heap.size + 1) w2 w6 := Only.of_grown hg6 (fun i e => (Option.some.inj e).symm)
    have hnt := noTxt_blk hz2h.out (by decide)
    have hs1 := hal2.out.size
    have hs4 := ho4.size
    refine bodyPost_ret (v := .tuple #[.agg zGra, .iface 48 (.int .i64 8)]) ?_ rfl ?_
    · exact results_cell2 8 tGra 9 (w.heap.size + 1) Tryd.results6 rfl rfl (loadG_blk hb6 undGra rfl infoGra)
    · unfold UsePost
      rw [hn.out]
      refine ⟨_, got_zero _ _, rfl, ?_, ?_⟩
      · refine ((hBH.out.later hal2.out).kept ho4 (fun i hi e => by have := hBH.out.bd i hi; omega)).mono (fun i hi => ⟨.inl hi, by have := hBH.out.bd i hi; omega⟩) (fun i hi => hi.2)
      · refine OnlyT.trans (OnlyT.of_below hal2.out) (ho4.mono ?_)
        rintro i rfl
        exact ⟨⟨.inr (by omega), by have := hz2h.out.lt; omega⟩, hnt⟩
  · obtain ⟨k, rfl⟩ : ∃ k : Nat, i = (k : Int) := ⟨i.toNat, by omega⟩
    have hkl : k < gs.length := by omega
    have hyy := Lib.hid (bankUse_yes (o := o) (p := p) (path := path) hffH.out hkl)
    clear hr hffH hz2 hBl
    obtain ⟨vg, vw, Gs, Ws, hX, rfl, rfl⟩ := hX2.out.x
    rw [List.length_map] at hl hkl
    obtain ⟨a1, cap1, rfl, hrow, _⟩ := OwnG.shape encGra_len hX.og
    have c0 : _ = some (Value.slice a1 Gs.length cap1) := hX.blk.cell 0 rfl
    obtain ⟨pb, po, rfl, hc⟩ := hrow k hkl
    have hrg : w2.rangeAt pb (po + k * 16) (encGra Gs[k]) := hc
    have hgk := Lib.hid (show (Gs.map Gra.d)[k] = Gs[k].d from List.getElem_map _)
    have hing := Lib.hid (hX.ing _ (List.getElem_mem hkl))
    have hXH := Lib.hid hX
    have hok1 := Lib.hid (hokG.out _ (List.mem_map_of_mem (List.getElem_mem hkl)))
    clear hc hrow hX
    generalize hxx : Gs[k] = x at hrg hgk hing hok1
    have hZ := Blk.new w2 zGra tGra
    go_upto_region 5 with (first
      | (refine wpList_load_mid rfl tGra _ rfl pb (po + k * 16) rfl (encGra x) _ hrg undGra rfl infoGra ?_)
      | (refine wpList_store_blk rfl tGra _ _ rfl _ rfl hZ x.arr rfl rfl infoGra (gra_one x) ?_; intro wa hpas hga))
    have hBa0 := ((Below.refl w2.heap.size w2).alloc (Nat.le_refl _) (.cells zGra tGra))
    have hBa2 := Lib.hid (below_only hBa0 hga (by simp) (Nat.le_refl _))
    have hBa := Lib.hid (hal2.out.then (Nat.le_refl _) hBa2.out)
    have hza := Lib.hid (hz2h.out.later hBa2.out)
    have hpH := Lib.hid hpas
    have hXa := Lib.hid (hXH.out.later hBa2.out)
    have hcnt : wa.cell? ⟨w2.heap.size, 14, none⟩ = some (.int .i64 x.count) := hpas.cell 14 rfl
    have c1 : _ = some (Value.slice (some ⟨pb, po, none⟩) Gs.length cap1) := hXa.out.blk.cell 0 rfl
    have hd := deleteG k (k + 1) 0 _ Gs wa hXa.out.og (by omega) (by omega) (by omega)
    rw [show ((k + 1 : Nat) : Int) = (k : Int) + 1 by omega] at hd
    have hsub : Hid (∀ wx, Only (fun i => (Value.slice (some ⟨pb, po, none⟩) Gs.length cap1).ownBlock = some i) wa wx → ∀ g ∈ Gs.take k ++ Gs.drop (k + 1), g.In wx (grow S wa wx)) := Lib.hid (fun wx ho g hg => by
      have hm : g ∈ Gs := by
        rcases List.mem_append.1 hg with e | e
        · exact List.mem_of_mem_take e
        · exact List.mem_of_mem_drop e
      exact ((hXa.out.ing g hm).own (by decide) hXa.out.og ho).mono (fun i hi => ⟨.inl hi, Nat.lt_of_lt_of_le (hXa.out.bd i hi) ho.size⟩))
    have hmp := Lib.hid (show (Gs.take k ++ Gs.drop (k + 1)).map Gra.d = (Gs.map Gra.d).take k ++ (Gs.map Gra.d).drop (k + 1) by rw [List.map_append, List.map_take, List.map_drop])
    have hokg2 : Hid (∀ g ∈ (Gs.map Gra.d).take k ++ (Gs.map Gra.d).drop (k + 1), g.Ok) := Lib.hid (by
      intro g hg
      rcases List.mem_append.1 hg with e | e
      · exact hokG.out g (List.mem_of_mem_take e)
      · exact hokG.out g (List.mem_of_mem_drop e))
    have hld : (Gs.take k ++ Gs.drop (k + 1)).length ≤ 1000 := by rw [List.length_append, List.length_take, List.length_drop]; omega
    generalize Gs.take k ++ Gs.drop (k + 1) = Gs' at hd hsub hmp hld
    clear hrg hZ hga hBa0 hpas
    go_wp2_with fail
    refine hd.mono ?_
    rintro e w4 ⟨v2, rfl, hO2, ho2, hb2⟩
    obtain ⟨a2, cap2, rfl, hsh2⟩ := OwnG.shape encGra_len hO2
    have hbx : Blk w4 b #[.slice a2 0 0, vw] tBank → True := fun _ => trivial
    have hb4 : Blk w4 b #[.slice (some ⟨pb, po, none⟩) Gs.length cap1, vw] tBank := ho2.blk hXa.out.blk (hXa.out.og.apart (by decide) hXa.out.blk)
    have hO2h := Lib.hid hO2
    have ho2h := Lib.hid ho2
    have hb2h := Lib.hid hb2
    clear hd c1 hO2 ho2 hb2 hsh2 hbx hcnt
    go_upto_region 6 with (refine wpList_store_cell rfl _ _ _ (by rfl) b 0 (by rfl) hb4 (by decide : 0 < 2) (.slice a2 Gs'.length cap2) (by rfl) (by rfl) (by rfl) infoGrantsF ?_; intro w5 hb5 hg5)
    have hb5' : Blk w5 b #[.slice a2 Gs'.length cap2, vw] tBank := hb5
    have hX5 := Lib.hid (hXa.out.turnG ho2h.out hO2h.out (own_same hb2h.out) (hsub.out w4 ho2h.out) hb5' hg5)
    have hbl := hXH.out.blk.lt
    have hvw := hXH.out.og.lt
    have hp5 : Blk w5 w2.heap.size x.arr tGra := (ho2h.out.blk hpH.out (fun e => by have := (hvw _ e).2; omega)).grown hg5 (fun e => by have := Option.some.inj e; omega)
    have hs1 := hal2.out.size
    have hz5 : Blk w5 (w.heap.size + 1) zGra tGra := (ho2h.out.blk hza.out (fun e => by have := (hvw _ e).2; have := hXH.out.sg _ e; have := hBH.out.bd _ this; omega)).grown hg5 (fun e => by have := Option.some.inj e; have := hBH.out.bd _ hBH.out.sb; omega)
    have hz5h := Lib.hid hz5
    have hp5h := Lib.hid hp5
    have hcnt : w5.cell? ⟨w2.heap.size, 14, none⟩ = some (.int .i64 x.count) := hp5.cell 14 rfl
    clear hb5 hg5 hb4 hsub hb5' hvw
    by_cases hful : 4294967295 ≤ x.count
    · go_wp2_with (refine wpList_store_blk rfl tGra _ _ rfl _ rfl hz5 zGra rfl rfl infoGra (by simp [Value.oneCell']) ?_; intro w6 hb6 hg6)
      have ho4 : Only (fun i => i = w.heap.size + 1) w5 w6 := Only.of_grown hg6 (fun i e => (Option.some.inj e).symm)
      have hnt := noTxt_blk hz5h.out (by decide)
      have hsa := hBa.out.size
      have hs5 := hX5.out.2.size
      have hs4 := ho4.size
      refine bodyPost_ret (v := .tuple #[.agg zGra, .iface 48 (.int .i64 12)]) ?_ rfl ?_
      · exact results_cell2 8 tGra 9 (w.heap.size + 1) Tryd.results6 rfl rfl (loadG_blk hb6 undGra rfl infoGra)
      · unfold UsePost
        rw [hyy.out, hgk.out, if_pos (show 4294967295 ≤ x.d.count from hful)]
        refine ⟨_, got_zero _ _, rfl, ?_, ?_⟩
        · have hr := hX5.out.1.r (by rw [hmp.out]; exact hokg2.out) hokW.out
          rw [hmp.out] at hr
          refine (hr.kept ho4 (fun i hi e => ?_)).mono ?_ (fun i hi => hi.2)
          · have hpl := hpH.out.lt
            have hzl := hz2h.out.lt
            rcases hi.1 with h2 | h2
            · have := hBH.out.bd i h2; omega
            · omega
          · rintro i ⟨h2 | h2, h3⟩
            · exact ⟨.inl h2, by omega⟩
            · exact ⟨.inr (by omega), by omega⟩
        · refine OnlyT.trans (OnlyT.trans (OnlyT.of_below hBa.out) (hX5.out.2.mono ?_)) (ho4.mono ?_)
          · rintro i ⟨h2, h3⟩
            exact ⟨⟨.inl h2, by have := hBH.out.bd i h2; omega⟩, h3⟩
          · rintro i rfl
            exact ⟨⟨.inr (by omega), by have := hz5h.out.lt; omega⟩, hnt⟩
    · go_wp2_with (refine wpList_store_cell rfl _ _ _ (by rfl) w2.heap.size 14 (by rfl) hp5 (by decide : 14 < 16) (.int .i64 (wrap64 (x.count + 1))) (by rfl) (by rfl) (by rfl) (by kernel_rfl) ?_; intro w6 hp6 hg6)
      have hcw : wrap64 (x.count + 1) = x.count + 1 := by
        have h0 : -9223372036854775808 ≤ x.count := hok1.out.c0
        unfold wrap64
        omega
      rw [hcw] at hp6
      obtain ⟨x', hx'⟩ : ∃ x' : Gra, x' = ⟨x.orig, x.proxy, x.user, x.pass, x.ask, x.count + 1, x.paths, x.addr, x.cap⟩ := ⟨_, rfl⟩
      have hq6 : Blk w6 w2.heap.size x'.arr tGra := by rw [hx']; exact hp6
      have hxd : Hid (x'.d = x.d.more) := Lib.hid (by rw [hx'])
      have ho6 : Only (fun i => i = w2.heap.size) w5 w6 := Only.of_grown hg6 (fun i e => (Option.some.inj e).symm)
      have hnt6 := Lib.hid (noTxt_blk hp5h.out (by decide))
      have hs2a := hBa2.out.size
      have hpl := hpH.out.lt
      have hs5 := hX5.out.2.size
      have hs6 := ho6.size
      have hinx : Hid (x'.In w6 (grow (grow S wa w5) w5 w6)) := Lib.hid (by
        rw [hx']
        have hno : ¬ S w2.heap.size := fun e => by have := hXH.out.bd _ e; omega
        exact ⟨((hing.out.dom.later hBa2.out).stays hX5.out.2).kept ho6 (fun hn y hy e => hno (by rw [← e]; exact hing.out.domS hn y hy)), ((hing.out.pth.later hBa2.out).stays hX5.out.2).kept ho6 (fun hn y hy e => hno (by rw [← e]; exact hing.out.pthS hn y hy)), fun hn y hy => ⟨.inl ⟨.inl (hing.out.domS hn y hy), by have := hXH.out.bd _ (hing.out.domS hn y hy); omega⟩, by have := hXH.out.bd _ (hing.out.domS hn y hy); omega⟩, fun hn y hy => ⟨.inl ⟨.inl (hing.out.pthS hn y hy), by have := hXH.out.bd _ (hing.out.pthS hn y hy); omega⟩, by have := hXH.out.bd _ (hing.out.pthS hn y hy); omega⟩⟩)
      have hX6 := Lib.hid ((hX5.out.1.kept ho6 (fun i hi e => by
        rcases hi.1 with h2 | h2
        · have := hXH.out.bd i h2; omega
        · omega)).mono (S' := grow (grow S wa w5) w5 w6) (fun i hi => ⟨.inl hi, by have := hX5.out.1.bd i hi; omega⟩) (fun _ hi => hi.2))
      obtain ⟨S6, hS6⟩ : ∃ S6, S6 = grow (grow S wa w5) w5 w6 := ⟨_, rfl⟩
      rw [← hS6] at hX6 hinx
      have hS6h := Lib.hid hS6
      have hq0n : ¬ S6 w2.heap.size := fun e => by
        rw [hS6] at e
        rcases e.1 with (h | h)
        · rcases h.1 with h2 | h2
          · have := hXH.out.bd _ h2; omega
          · omega
        · omega
      have hmk : ∀ w', Only (OnVG (.slice a2 Gs'.length cap2) b) w6 w' → Only (OnVG (.slice a2 Gs'.length cap2) b) w6 w' ∧ Blk w' w2.heap.size x'.arr tGra := fun w' ho =>
        ⟨ho, ho.blk hq6 (fun e => by rcases e with e | e; exact hq0n (hX6.out.sg _ e); exact hq0n (by rw [e]; exact hX6.out.sb))⟩
      have hwB : Below w6.heap.size w6 w6.drew := (Below.refl _ _).drew
      have hl1 : Gs'.length + 1 ≤ maxLen := by unfold maxLen; omega
      have hl3 : (Gs'.length + 1) * 216 ≤ 140737488355328 := by omega
      clear hp6 hp5 hg6 hx' hS6 hz5 hcnt
      go_cut [] (fun wx => ∃ (v7 : Value) (Hs : List Gra), Hs.length ≤ 1001 ∧ Hid (BankX wx b (grow S6 w6 wx) v7 vw Hs Ws ∧ OnlyT S6 w6 wx) ∧ Hid (Hs.map Gra.d = Gs'.map Gra.d ++ [x.d.more]))
      case first =>
        refine wp_region_held_drew (S := fun w' => Only (OnVG (.slice a2 Gs'.length cap2) b) w6 w' ∧ Blk w' w2.heap.size x'.arr tGra) (by kernel_rfl) (by (try dsimp only); exact hmk _ (Only.of_below hwB)) (fun hHeld => ?_)
        refine wpAnyH_take (i := 0) (v := ?_) rfl (by kernel_rfl) (by kernel_rfl) (by kernel_rfl) (fun _ _ _ h => h) (Or.inl ⟨by rfl, ?_⟩) (by assumption) ?_
        rotate_left
        · intro w hSw; (try dsimp only at hSw); go_simp; (try with_reducible rfl)
        (try simp only [List.getElem_toArray, List.getElem_cons_succ, List.getElem_cons_zero, Act.put, List.setIfInBounds_toArray, List.set_cons_zero, List.set_cons_succ])
        refine wpAnyH_take (i := 1) (v := ?_) rfl (by kernel_rfl) (by kernel_rfl) (by kernel_rfl) (fun _ _ _ h => h) (Or.inl ⟨by rfl, ?_⟩) (by assumption) ?_
        rotate_left
        · intro w hSw; (try dsimp only at hSw); go_simp; (try with_reducible rfl)
        (try simp only [List.getElem_toArray, List.getElem_cons_succ, List.getElem_cons_zero, Act.put, List.setIfInBounds_toArray, List.set_cons_zero, List.set_cons_succ])
        refine wpAnyH_take (i := 2) (v := ?_) rfl (by kernel_rfl) (by kernel_rfl) (by kernel_rfl) (fun _ _ _ h => h) (Or.inl ⟨by rfl, ?_⟩) (by assumption) ?_
        rotate_left
        · intro w hSw; (try dsimp only at hSw); go_simp; (try with_reducible rfl)
        (try simp only [List.getElem_toArray, List.getElem_cons_succ, List.getElem_cons_zero, Act.put, List.setIfInBounds_toArray, List.set_cons_zero, List.set_cons_succ])
        refine wpAnyH_take (i := 3) (v := ?_) rfl (by kernel_rfl) (by kernel_rfl) (by kernel_rfl) (fun _ _ _ h => h) (Or.inl ⟨by rfl, ?_⟩) (by assumption) ?_
        rotate_left
        · intro w hSw; (try dsimp only at hSw); go_simp; (try with_reducible rfl)
        (try simp only [List.getElem_toArray, List.getElem_cons_succ, List.getElem_cons_zero, Act.put, List.setIfInBounds_toArray, List.set_cons_zero, List.set_cons_succ])
        refine wpAnyH_take (i := 5) (v := .agg x'.arr) rfl (by kernel_rfl) (by kernel_rfl) (by kernel_rfl) (fun _ _ _ h => h) (yieldsIf_load_mid (by rfl) tGra _ rfl w2.heap.size 0 (by rfl) (encGra x') _ (fun w h => h.2.range) undGra rfl infoGra) (by assumption) ?_
        (try simp only [List.getElem_toArray, List.getElem_cons_succ, List.getElem_cons_zero, Act.put, List.setIfInBounds_toArray, List.set_cons_zero, List.set_cons_succ])
        refine wpAnyH_ready (rs := [4, 6]) (by kernel_rfl) (by simp) ?_
        refine AllReadyH.cons rfl (fun K hK => ?_) (AllReadyH.cons rfl (fun K hK => ?_) AllReadyH.nil)
        · have cW : _ = some (Value.slice a2 Gs'.length cap2) := hX6.out.blk.cell 0 rfl
          have cP : _ = some (Value.slice a2 Gs'.length cap2) := (hX6.out.blk.later hwB).cell 0 rfl
          go_simp
          refine hK.out _ _ (by (try dsimp only); exact hmk _ (Only.of_below hwB)) (fun hHeld => ?_)
          clear hK K
          (try simp only [List.getElem_toArray, List.getElem_cons_succ, List.getElem_cons_zero, Act.put, List.setIfInBounds_toArray, List.set_cons_zero, List.set_cons_succ])
          refine wpAnyH_ready (rs := [6]) (by kernel_rfl) (by simp) ?_
          refine AllReadyH.cons rfl (fun K hK => ?_) AllReadyH.nil
          go_simp
          have hB5 : Below w6.heap.size w6 (w6.drew.alloc (.cells x'.arr tGra)) := hwB.alloc hwB.size _
          have hnb := Blk.new w6.drew x'.arr tGra
          refine hK.out _ _ (by (try dsimp only); exact hmk _ (Only.of_below hB5)) (fun hHeld => ?_)
          clear hK K
          (try simp only [List.getElem_toArray, List.getElem_cons_succ, List.getElem_cons_zero, Act.put, List.setIfInBounds_toArray, List.set_cons_zero, List.set_cons_succ])
          refine wpAnyH_ready (rs := [7]) (by kernel_rfl) (by simp) ?_
          refine AllReadyH.cons rfl (fun K hK => ?_) AllReadyH.nil
          refine step_append_blk wholeGD Tryd.underlying24 (by rfl) (by decide) encGra_len (by rfl) _ _ (by rfl) _ 0 (.slice a2 Gs'.length cap2) Gs' (by rfl) (OwnG.later hX6.out.og hB5) x' (encGra_one _) _ (by rfl) _ hnb (by rfl) hl1 hl3 (Nat.zero_le _) ?_
          intro g4 cap4 w8 hO6 hG6 hat6
          have hov6 : Only (fun i => (Value.slice a2 Gs'.length cap2).ownBlock = some i) w6 w8 := (Only.of_below hB5).trans (Only.of_grown hG6 (fun i hi => hi))
          have hov6' : Only (OnVG (.slice a2 Gs'.length cap2) b) w6 w8 := hov6.mono (fun i hi => .inl hi)
          have hb6 : Blk w8 b #[.slice a2 Gs'.length cap2, vw] tBank := hov6.blk hX6.out.blk (hX6.out.og.apart (by decide) hX6.out.blk)
          have c4 := hb6.cell 0 rfl
          have f4 := hb6.free 0
          have hown6 := own_app (v := .slice a2 Gs'.length cap2) (v2 := .slice a2 Gs'.length cap2) (n4 := Gs'.length + 1) (c4 := cap4) hB5.size rfl hat6
          have hin6 : ∀ y ∈ Gs' ++ [x'], y.In w8 (grow S6 w6 w8) := ask_inG hX6.out hov6 hinx.out
          refine hK.out _ _ (by (try dsimp only); exact hmk _ hov6') (fun hHeld => ?_)
          clear hK K
          (try simp only [List.getElem_toArray, List.getElem_cons_succ, List.getElem_cons_zero, Act.put, List.setIfInBounds_toArray, List.set_cons_zero, List.set_cons_succ])
          refine wpAnyH_take (i := 8) (v := ?_) rfl (by kernel_rfl) (by kernel_rfl) (by kernel_rfl) (fun _ _ _ h => h) (Or.inl ⟨by rfl, ?_⟩) (by assumption) ?_
          rotate_left
          · intro w hSw; (try dsimp only at hSw); go_simp; (try with_reducible rfl)
          (try simp only [List.getElem_toArray, List.getElem_cons_succ, List.getElem_cons_zero, Act.put, List.setIfInBounds_toArray, List.set_cons_zero, List.set_cons_succ])
          refine wpAnyH_take (i := 9) (v := ?_) rfl (by kernel_rfl) (by kernel_rfl) (by kernel_rfl) (fun _ _ _ h => h) (Or.inl ⟨by rfl, ?_⟩) (by assumption) ?_
          rotate_left
          · intro w hSw; (try dsimp only at hSw); go_simp; (try with_reducible rfl)
          (try simp only [List.getElem_toArray, List.getElem_cons_succ, List.getElem_cons_zero, Act.put, List.setIfInBounds_toArray, List.set_cons_zero, List.set_cons_succ])
          refine wpAnyH_ready (rs := [10]) (by kernel_rfl) (by simp) ?_
          refine AllReadyH.cons rfl (fun K hK => ?_) AllReadyH.nil
          go_simp
          have hEnd := Lib.hid (hX6.out.turnG hov6 hO6 hown6 hin6 (by simpa using hb6.set 0 (.slice (some ⟨g4, 0, none⟩) (Gs'.length + 1) cap4)) (only_setCell (only_refl w8 (some b)) (.inl rfl) (.slice (some ⟨g4, 0, none⟩) (Gs'.length + 1) cap4)))
          have hov5 := hov6'.set (p := ⟨b, 0, none⟩) (.inl (.inr rfl)) (.slice (some ⟨g4, 0, none⟩) (Gs'.length + 1) cap4)
          refine hK.out _ _ (by (try dsimp only); exact hmk _ hov5) (fun hHeld => ?_)
          clear hK K
          (try simp only [List.getElem_toArray, List.getElem_cons_succ, List.getElem_cons_zero, Act.put, List.setIfInBounds_toArray, List.set_cons_zero, List.set_cons_succ])
          refine wpAnyH_done (by kernel_rfl) ?_ _
          clear hB5 hnb hO6 hG6 hat6 hov6 hov6' hb6 c4 f4 hown6 hin6 hov5
          go_wp2
          go_meet
          exact ⟨_, Gs' ++ [x'], (by rw [List.length_append]; have e1 : [x'].length = 1 := rfl; omega), hEnd, Lib.hid (by rw [List.map_append, List.map_singleton, hxd.out])⟩
        · go_simp
          have hB5 : Below w6.heap.size w6 (w6.drew.alloc (.cells x'.arr tGra)) := hwB.alloc hwB.size _
          have hnb := Blk.new w6.drew x'.arr tGra
          refine hK.out _ (w6.drew.alloc (.cells x'.arr tGra)) (by (try dsimp only); exact hmk _ (Only.of_below hB5)) (fun hHeld => ?_)
          clear hK K
          (try simp only [List.getElem_toArray, List.getElem_cons_succ, List.getElem_cons_zero, Act.put, List.setIfInBounds_toArray, List.set_cons_zero, List.set_cons_succ])
          generalize hwq : w6.drew.alloc (.cells x'.arr tGra) = wq at *
          refine wpAnyH_ready (rs := [4]) (by kernel_rfl) (by simp) ?_
          refine AllReadyH.cons rfl (fun K hK => ?_) AllReadyH.nil
          have cW : _ = some (Value.slice a2 Gs'.length cap2) := hX6.out.blk.cell 0 rfl
          have cP : _ = some (Value.slice a2 Gs'.length cap2) := (hX6.out.blk.later hB5).cell 0 rfl
          go_simp
          refine hK.out _ _ (by (try dsimp only); exact hmk _ (Only.of_below hB5)) (fun hHeld => ?_)
          clear hK K
          (try simp only [List.getElem_toArray, List.getElem_cons_succ, List.getElem_cons_zero, Act.put, List.setIfInBounds_toArray, List.set_cons_zero, List.set_cons_succ])
          refine wpAnyH_ready (rs := [7]) (by kernel_rfl) (by simp) ?_
          refine AllReadyH.cons rfl (fun K hK => ?_) AllReadyH.nil
          refine step_append_blk wholeGD Tryd.underlying24 (by rfl) (by decide) encGra_len (by rfl) _ _ (by rfl) _ 0 (.slice a2 Gs'.length cap2) Gs' (by rfl) (OwnG.later hX6.out.og hB5) x' (encGra_one _) _ (by rfl) _ hnb (by rfl) hl1 hl3 (Nat.zero_le _) ?_
          intro g4 cap4 w8 hO6 hG6 hat6
          have hov6 : Only (fun i => (Value.slice a2 Gs'.length cap2).ownBlock = some i) w6 w8 := (Only.of_below hB5).trans (Only.of_grown hG6 (fun i hi => hi))
          have hov6' : Only (OnVG (.slice a2 Gs'.length cap2) b) w6 w8 := hov6.mono (fun i hi => .inl hi)
          have hb6 : Blk w8 b #[.slice a2 Gs'.length cap2, vw] tBank := hov6.blk hX6.out.blk (hX6.out.og.apart (by decide) hX6.out.blk)
          have c4 := hb6.cell 0 rfl
          have f4 := hb6.free 0
          have hown6 := own_app (v := .slice a2 Gs'.length cap2) (v2 := .slice a2 Gs'.length cap2) (n4 := Gs'.length + 1) (c4 := cap4) hB5.size rfl hat6
          have hin6 : ∀ y ∈ Gs' ++ [x'], y.In w8 (grow S6 w6 w8) := ask_inG hX6.out hov6 hinx.out
          refine hK.out _ _ (by (try dsimp only); exact hmk _ hov6') (fun hHeld => ?_)
          clear hK K
          (try simp only [List.getElem_toArray, List.getElem_cons_succ, List.getElem_cons_zero, Act.put, List.setIfInBounds_toArray, List.set_cons_zero, List.set_cons_succ])
          refine wpAnyH_take (i := 8) (v := ?_) rfl (by kernel_rfl) (by kernel_rfl) (by kernel_rfl) (fun _ _ _ h => h) (Or.inl ⟨by rfl, ?_⟩) (by assumption) ?_
          rotate_left
          · intro w hSw; (try dsimp only at hSw); go_simp; (try with_reducible rfl)
          (try simp only [List.getElem_toArray, List.getElem_cons_succ, List.getElem_cons_zero, Act.put, List.setIfInBounds_toArray, List.set_cons_zero, List.set_cons_succ])
          refine wpAnyH_take (i := 9) (v := ?_) rfl (by kernel_rfl) (by kernel_rfl) (by kernel_rfl) (fun _ _ _ h => h) (Or.inl ⟨by rfl, ?_⟩) (by assumption) ?_
          rotate_left
          · intro w hSw; (try dsimp only at hSw); go_simp; (try with_reducible rfl)
          (try simp only [List.getElem_toArray, List.getElem_cons_succ, List.getElem_cons_zero, Act.put, List.setIfInBounds_toArray, List.set_cons_zero, List.set_cons_succ])
          refine wpAnyH_ready (rs := [10]) (by kernel_rfl) (by simp) ?_
          refine AllReadyH.cons rfl (fun K hK => ?_) AllReadyH.nil
          go_simp
          have hEnd := Lib.hid (hX6.out.turnG hov6 hO6 hown6 hin6 (by simpa using hb6.set 0 (.slice (some ⟨g4, 0, none⟩) (Gs'.length + 1) cap4)) (only_setCell (only_refl w8 (some b)) (.inl rfl) (.slice (some ⟨g4, 0, none⟩) (Gs'.length + 1) cap4)))
          have hov5 := hov6'.set (p := ⟨b, 0, none⟩) (.inl (.inr rfl)) (.slice (some ⟨g4, 0, none⟩) (Gs'.length + 1) cap4)
          refine hK.out _ _ (by (try dsimp only); exact hmk _ hov5) (fun hHeld => ?_)
          clear hK K
          (try simp only [List.getElem_toArray, List.getElem_cons_succ, List.getElem_cons_zero, Act.put, List.setIfInBounds_toArray, List.set_cons_zero, List.set_cons_succ])
          refine wpAnyH_done (by kernel_rfl) ?_ _
          clear hB5 hnb hO6 hG6 hat6 hov6 hov6' hb6 c4 f4 hown6 hin6 hov5
          go_wp2
          go_meet
          exact ⟨_, Gs' ++ [x'], (by rw [List.length_append]; have e1 : [x'].length = 1 := rfl; omega), hEnd, Lib.hid (by rw [List.map_append, List.map_singleton, hxd.out])⟩
      case rest =>
        obtain ⟨v7, Hs, hHl, hXT, hHm⟩ := hcut
        rename World => w7
        clear hmk hwB
        have hs7 := hXT.out.2.size
        have hzl := hz2h.out.lt
        have hq7 : Blk w7 w2.heap.size x'.arr tGra := hXT.out.2.only.blk hq6 hq0n
        have hok' : x'.d.Ok := by
          rw [hxd.out]
          exact ⟨hok1.out.l1, hok1.out.l2, hok1.out.sz, (by have : -9223372036854775808 ≤ x.d.count := hok1.out.c0; show -9223372036854775808 ≤ x.d.count + 1; omega), (by show x.count + 1 ≤ 9223372036854775807; omega)⟩
        have hco := bankCopied x' w7 (hinx.out.dom.stays hXT.out.2).1 (hinx.out.pth.stays hXT.out.2).1 (Nat.le_trans (show x'.ask.d.domain.length ≤ 100000 from hok'.l1) (by decide)) (Nat.le_trans (show x'.paths.length ≤ 100000 from hok'.l2) (by decide))
        have hrz : ¬ S6 (w.heap.size + 1) := fun e => by
          rw [hS6h.out] at e
          rcases e.1 with (h | h)
          · rcases h.1 with h2 | h2
            · have := hBH.out.bd _ h2; omega
            · omega
          · omega
        have hz7 : Blk w7 (w.heap.size + 1) zGra tGra := hXT.out.2.only.blk (ho6.blk hz5h.out (fun e => by omega)) hrz
        have hz7h := Lib.hid hz7
        go_wp2_with (first
          | (refine wpList_load_blk rfl tGra _ rfl _ rfl hq7 _ undGra rfl infoGra ?_)
          | (refine hco.mono ?_; rintro e w8 ⟨g', hgd, rfl, ht1, ht2, hb1, hb2, hB8⟩; have hz8 := hz7h.out.later hB8)
          | (refine wpList_store_blk rfl tGra _ _ rfl _ rfl hz8 g'.arr rfl rfl infoGra (gra_one g') ?_; intro w9 hb9 hg9))
        have ho9 : Only (fun i => i = w.heap.size + 1) w8 w9 := Only.of_grown hg9 (fun i e => (Option.some.inj e).symm)
        have hs8 := hB8.size
        have hs9 := ho9.size
        have hsa := hBa.out.size
        have hnt := noTxt_blk hz8 (by decide)
        have hS6S : ∀ i, S6 i → S i ∨ w.heap.size ≤ i := fun i e => by
          rw [hS6h.out] at e
          rcases e.1 with (h | h)
          · exact h.1.imp id (fun h => by omega)
          · exact .inr (by omega)
        refine bodyPost_ret (v := .tuple #[.agg g'.arr, .nilIface]) ?_ rfl ?_
        · exact results_cell2 8 tGra 9 (w.heap.size + 1) Tryd.results6 rfl rfl (loadG_blk hb9 undGra rfl infoGra)
        · unfold UsePost
          rw [hyy.out, hgk.out, if_neg (show ¬ 4294967295 ≤ x.d.count from Int.not_le.2 hful)]
          refine ⟨g', ⟨hgd.trans hxd.out, ht1.kept ho9 (fun _ y hy e => by have := (hb1 y hy).1; omega), ht2.kept ho9 (fun _ y hy e => by have := (hb2 y hy).1; omega), fun y hy => by have := hb1 y hy; omega, fun y hy => by have := hb2 y hy; omega⟩, rfl, ?_, ?_⟩
          · have hmm : Hs.map Gra.d = ((Gs.map Gra.d).take k ++ (Gs.map Gra.d).drop (k + 1)) ++ [x.d.more] := by rw [hHm.out, hmp.out]
            have hr := hXT.out.1.r (by
              rw [hmm]
              intro g hg
              rcases List.mem_append.1 hg with e | e
              · exact hokg2.out g e
              · rw [List.mem_singleton.1 e, ← hxd.out]; exact hok') hokW.out
            rw [hmm] at hr
            refine ((hr.later hB8).kept ho9 (fun i hi e => ?_)).mono ?_ (fun i hi => hi.2)
            · rcases hi.1 with h | h
              · exact hrz (by rw [← e]; exact h)
              · omega
            · rintro i ⟨h, h3⟩
              rcases h with h | h
              · exact ⟨hS6S i h, by omega⟩
              · exact ⟨.inr (by omega), by omega⟩
          · refine OnlyT.trans (OnlyT.trans (OnlyT.trans (OnlyT.trans (OnlyT.trans (OnlyT.of_below hBa.out) (hX5.out.2.mono ?_)) (ho6.mono ?_)) (hXT.out.2.mono ?_)) (OnlyT.of_below hB8)) (ho9.mono ?_)
            · rintro i ⟨h2, h3⟩
              exact ⟨⟨.inl h2, by have := hBH.out.bd i h2; omega⟩, h3⟩
            · rintro i rfl
              exact ⟨⟨.inr (by omega), by omega⟩, hnt6.out⟩
            · rintro i ⟨h2, h3⟩
              exact ⟨⟨hS6S i h2, hX6.out.bd i h2⟩, h3⟩
            · rintro i rfl
              exact ⟨⟨.inr (by omega), by omega⟩, hnt⟩
end Go.Proofs.YtchgpdgigpaloaaDoor
