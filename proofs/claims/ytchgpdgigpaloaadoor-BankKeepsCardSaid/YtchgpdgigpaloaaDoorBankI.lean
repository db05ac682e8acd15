/- The program's bank: Put. -/
import Derived.Test.YtchgpdgigpaloaaDoorBankH
namespace Go.Proofs.YtchgpdgigpaloaaDoor
set_option linter.unusedSimpArgs false
open Go.RowKit Go.Deep
abbrev OnVG (v : Value) (b : Nat) (i : Nat) : Prop := v.ownBlock = some i ∨ i = b
/-- the grants of a row, and one more, behind an append -/
theorem put_in {w2 w3 wa w4 : World} {b : Nat} {S2 : Nat → Prop} {vg vw : Value} {Gs : List Gra} {Ws : List Wai} {g' : Gra} (hX : BankX w2 b S2 vg vw Gs Ws) (hov : Only (fun i => vg.ownBlock = some i) w2 w4) (hoa : Only (fun i => vg.ownBlock = some i) wa w4) (hB34 : Below w3.heap.size w3 wa) (h1 : TxtAt w3 g'.ask.addr g'.ask.d.domain) (h2 : TxtAt w3 g'.addr g'.paths) (h3 : ∀ y, g'.ask.addr = some y → w2.heap.size ≤ y.block ∧ y.block < w3.heap.size) (h4 : ∀ y, g'.addr = some y → w2.heap.size ≤ y.block ∧ y.block < w3.heap.size) (hO : OwnG tGra 16 encGra wa 0 vg Gs) :
    ∀ x ∈ Gs ++ [g'], x.In w4 (grow S2 w2 w4) := by
  have s1 := hB34.size
  have s2 := hoa.size
  intro x hx
  rcases List.mem_append.1 hx with hx | hx
  · exact ((hX.ing x hx).own (by decide) hX.og hov).mono (fun i hi => ⟨.inl hi, Nat.lt_of_lt_of_le (hX.bd i hi) hov.size⟩)
  · rw [List.mem_singleton.1 hx]
    have hg : g'.In w3 (grow S2 w2 w4) := ⟨h1, h2, fun _ y hy => ⟨.inr (h3 y hy).1, by have := (h3 y hy).2; omega⟩, fun _ y hy => ⟨.inr (h4 y hy).1, by have := (h4 y hy).2; omega⟩⟩
    exact (hg.later hB34).own (by decide) hO hoa
theorem bankDrop_len (o : Org) (p : Bool) (r : ByteArray) (gs : List GraD) : (bankDrop o p r gs).length ≤ gs.length := List.length_filter_le _ _
theorem put_fin {w w7 : World} {b : Nat} {S S7 : Nat → Prop} {vg vw : Value} {Hs : List Gra} {Ws : List Wai} (hX : BankX w7 b S7 vg vw Hs Ws) (hS7 : ∀ i, S7 i → S i ∨ w.heap.size ≤ i) (hg : ∀ g ∈ Hs.map Gra.d, g.Ok) (hw : ∀ x ∈ Ws.map Wai.d, x.Ok) : BankR w7 b (grow S w w7) (Hs.map Gra.d) (Ws.map Wai.d) :=
  (hX.mono (fun i hi => ⟨hS7 i hi, hX.bd i hi⟩) (fun _ hi => hi.2)).r hg hw
theorem put_onlyT {w w1 w7 : World} {S : Nat → Prop} (hB1 : Below w.heap.size w w1) (hbS : ∀ i, S i → i < w.heap.size) (h : OnlyT S w1 w7) : OnlyT S w w7 :=
  OnlyT.trans (OnlyT.of_below hB1) (h.mono (fun i e => ⟨⟨.inl e.1, by have := hbS i e.1; have := hB1.size; omega⟩, e.2⟩))
def PutPost (g : GraD) (b : Nat) (S : Nat → Prop) (gs : List GraD) (ws : List WaiD) (w : World) (e : Ending) (w' : World) : Prop :=
  e = .returned (.tuple #[]) ∧ BankR w' b (grow S w w') (bankPut g gs) ws ∧ OnlyT S w w'
theorem rngO {w : World} {q : Nat} {g : Gra} (h : Blk w q g.arr tGra) : w.rangeAt q 0 [.bool g.orig.sec, .string g.orig.host, .int .i64 g.orig.port] := fun j v hv => by
  match j, hv with
  | 0, hv => cases hv; exact h.cell 0 rfl
  | 1, hv => cases hv; exact h.cell 1 rfl
  | 2, hv => cases hv; exact h.cell 2 rfl
set_option maxRecDepth 100000 in
set_option maxHeartbeats 4000000 in
theorem bankPutP (b : Nat) (S : Nat → Prop) (gs : List GraD) (ws : List WaiD) (g : Gra) (w : World) (hB : BankR w b S gs ws) (hl : gs.length ≤ 1000) (hok : g.d.Ok)
    (htx : ∀ W, OnlyT S w W → StrAt W g.ask.addr g.ask.d.domain ∧ StrAt W g.addr g.paths) :
    Calls Tryd.prog 4 #[.pointer (some ⟨b, 0, none⟩), .agg g.arr] w (PutPost g.d b S gs ws w) := by
  have hal := (Below.refl w.heap.size w).alloc (Nat.le_refl _) (.cells g.arr tGra)
  have hq0 := Blk.new w g.arr tGra
  have hbS := Lib.hid hB.bd
  have hokH := Lib.hid hok
  have htH := Lib.hid htx
  go_enter Tryd.func4, Tryd.ntmps4
  go_upto_region 1 with (fail)
  generalize w.alloc (.cells g.arr tGra) = w1 at hal hq0 ⊢
  have hdr := bankDropP b S gs ws g.orig g.proxy g.ask.d.realm w1 (hB.later hal) (by omega)
  have hB1 := Lib.hid hal
  have hqH := Lib.hid hq0
  have hro := rngO hq0
  have c3 : _ = some (Value.bool g.proxy) := hq0.cell 3 rfl
  have c7 : _ = some (Value.string g.ask.d.realm) := hq0.cell 7 rfl
  have hbd := bankDrop_len g.orig g.proxy g.ask.d.realm gs
  have hpe : Hid (bankPut g.d gs = lastB 8 (bankDrop g.orig g.proxy g.ask.d.realm gs ++ [g.d])) := Lib.hid rfl
  clear hB hal hok htx hq0
  go_wp2_with (refine wpList_load_mid rfl 32 _ rfl w.heap.size 0 rfl [.bool g.orig.sec, .string g.orig.host, .int .i64 g.orig.port] _ hro Tryd.underlying32 rfl infoOrgB ?_)
  refine hdr.mono ?_
  rintro e w2 ⟨rfl, hR2, hT2⟩
  generalize bankDrop g.orig g.proxy g.ask.d.realm gs = gd at hR2 hbd hpe
  have hokG := Lib.hid hR2.okG
  have hokW := Lib.hid hR2.okW
  obtain ⟨vg, vw, Gs, Ws, hX, hmG, hmW⟩ := hR2.x
  obtain ⟨S2, hS2⟩ : ∃ S2, S2 = grow S w1 w2 := ⟨_, rfl⟩
  rw [← hS2] at hX
  have hS2h := Lib.hid hS2
  have hX2 := Lib.hid hX
  have hmGh := Lib.hid hmG
  have hmWh := Lib.hid hmW
  have hT2h := Lib.hid hT2
  have hq2 : Blk w2 w.heap.size g.arr tGra := hT2.only.blk hqH.out (fun e => by have := hbS.out _ e; omega)
  have hnv : ∀ i, vg.ownBlock = some i → i ≠ w.heap.size := fun i hi e => by
    have h1 := hX.sg i hi
    rw [hS2] at h1
    have h2 := hB1.out.size
    have h3 := hqH.out.lt
    rcases h1.1 with h4 | h4
    · have := hbS.out _ h4; omega
    · omega
  have hnb0 : w.heap.size ≠ b := fun e => by
    have h1 := hX.blk
    rw [← e] at h1
    have := hq2.same h1
    simp at this
  have hlG : Gs.length ≤ 1000 := by rw [← hmG, List.length_map] at hbd; omega
  have hl1 : Gs.length + 1 ≤ maxLen := by unfold maxLen; omega
  have hl3 : (Gs.length + 1) * 216 ≤ 140737488355328 := by omega
  have htw : ∀ w', Below w2.heap.size w2 w' → OnlyT S w w' := fun w' h => OnlyT.trans (OnlyT.of_below hB1.out) (OnlyT.trans hT2h.out (OnlyT.of_below h) |>.mono (fun i hi => ⟨⟨.inl hi.1, by have := hbS.out _ hi.1; have := hB1.out.size; omega⟩, hi.2⟩))
  have hco := fun w' (h : Below w2.heap.size w2 w') => bankCopied g w' (htH.out w' (htw w' h)).1 (htH.out w' (htw w' h)).2 (Nat.le_trans (show g.ask.d.domain.length ≤ 100000 from hokH.out.l1) (by decide)) (Nat.le_trans (show g.paths.length ≤ 100000 from hokH.out.l2) (by decide))
  obtain ⟨a1, cap1, rfl, _⟩ := OwnG.shape encGra_len hX.og
  have hmk : ∀ w', Only (OnVG (.slice a1 Gs.length cap1) b) w2 w' → Only (OnVG (.slice a1 Gs.length cap1) b) w2 w' ∧ Blk w' w.heap.size g.arr tGra := fun w' ho =>
    ⟨ho, ho.blk hq2 (fun e => by rcases e with e | e; exact hnv _ e rfl; exact hnb0 e)⟩
  have hwB : Below w2.heap.size w2 w2.drew := (Below.refl _ _).drew
  clear hR2 hT2 hX hmG hmW hS2 hdr hro c3 c7 htw hnv hnb0
  go_upto_region 2 with (fail)
  go_cut [] (fun wx => ∃ (v5 : Value) (Hs : List Gra), Hs.length ≤ 1001 ∧ Hid (BankX wx b (grow S2 w2 wx) v5 vw Hs Ws ∧ OnlyT S2 w2 wx) ∧ Hid (Hs.map Gra.d = Gs.map Gra.d ++ [g.d]))
  case first =>
    refine wp_region_held_drew (S := fun w' => Only (OnVG (.slice a1 Gs.length cap1) b) w2 w' ∧ Blk w' w.heap.size g.arr tGra) (by kernel_rfl) (by (try dsimp only); exact hmk _ (Only.of_below hwB)) (fun hHeld => ?_)
    refine wpAnyH_take (i := 0) (v := ?_) rfl (by kernel_rfl) (by kernel_rfl) (by kernel_rfl) (fun _ _ _ h => h) (Or.inl ⟨by rfl, ?_⟩) (by assumption) ?_
    rotate_left
    · intro w hSw; (try dsimp only at hSw); go_simp; (try with_reducible rfl)
    (try simp only [List.getElem_toArray, List.getElem_cons_succ, List.getElem_cons_zero, Act.put, List.setIfInBounds_toArray, List.set_cons_zero, List.set_cons_succ])
    refine wpAnyH_take (i := 1) (v := ?_) rfl (by kernel_rfl) (by kernel_rfl) (by kernel_rfl) (fun _ _ _ h => h) (Or.inl ⟨by rfl, ?_⟩) (by assumption) ?_
    rotate_left
    · intro w hSw; (try dsimp only at hSw); go_simp; (try with_reducible rfl)
    (try simp only [List.getElem_toArray, List.getElem_cons_succ, List.getElem_cons_zero, Act.put, List.setIfInBounds_toArray, List.set_cons_zero, List.set_cons_succ])
    refine wpAnyH_take (i := 2) (v := ?_) rfl (by kernel_rfl) (by kernel_rfl) (by kernel_rfl) (fun _ _ _ h => h) (Or.inl ⟨by rfl, ?_⟩) (by assumption) ?_
    rotate_left
    · intro w hSw; (try dsimp only at hSw); go_simp; (try with_reducible rfl)
    (try simp only [List.getElem_toArray, List.getElem_cons_succ, List.getElem_cons_zero, Act.put, List.setIfInBounds_toArray, List.set_cons_zero, List.set_cons_succ])
    refine wpAnyH_take (i := 3) (v := ?_) rfl (by kernel_rfl) (by kernel_rfl) (by kernel_rfl) (fun _ _ _ h => h) (Or.inl ⟨by rfl, ?_⟩) (by assumption) ?_
    rotate_left
    · intro w hSw; (try dsimp only at hSw); go_simp; (try with_reducible rfl)
    (try simp only [List.getElem_toArray, List.getElem_cons_succ, List.getElem_cons_zero, Act.put, List.setIfInBounds_toArray, List.set_cons_zero, List.set_cons_succ])
    refine wpAnyH_take (i := 5) (v := .agg g.arr) rfl (by kernel_rfl) (by kernel_rfl) (by kernel_rfl) (fun _ _ _ h => h) (yieldsIf_load_mid (by rfl) tGra _ rfl w.heap.size 0 (by rfl) (encGra g) _ (fun w h => h.2.range) undGra rfl infoGra) (by assumption) ?_
    (try simp only [List.getElem_toArray, List.getElem_cons_succ, List.getElem_cons_zero, Act.put, List.setIfInBounds_toArray, List.set_cons_zero, List.set_cons_succ])
    refine wpAnyH_ready (rs := [4, 6]) (by kernel_rfl) (by simp) ?_
    refine AllReadyH.cons rfl (fun K hK => ?_) (AllReadyH.cons rfl (fun K hK => ?_) AllReadyH.nil)
    · have cW : _ = some (Value.slice a1 Gs.length cap1) := hX2.out.blk.cell 0 rfl
      have cP : _ = some (Value.slice a1 Gs.length cap1) := (hX2.out.blk.later hwB).cell 0 rfl
      go_simp
      refine hK.out _ _ (by (try dsimp only); exact hmk _ (Only.of_below hwB)) (fun hHeld => ?_)
      clear hK K
      (try simp only [List.getElem_toArray, List.getElem_cons_succ, List.getElem_cons_zero, Act.put, List.setIfInBounds_toArray, List.set_cons_zero, List.set_cons_succ])
      refine wpAnyH_ready (rs := [6]) (by kernel_rfl) (by simp) ?_
      refine AllReadyH.cons rfl (fun K hK => ?_) AllReadyH.nil
      go_simp
      go_at_call 30
      refine (hco _ hwB).mono ?_
      rintro e w3 ⟨g', hgd, rfl, ht1, ht2, hs1, hs2, hB9⟩
      have hB3 := hwB.then (Nat.le_refl _) hB9
      have hge : w2.heap.size ≤ _ := hwB.size
      refine hK.out _ _ (by (try dsimp only); exact hmk _ (Only.of_below hB3)) (fun hHeld => ?_)
      clear hK K
      (try simp only [List.getElem_toArray, List.getElem_cons_succ, List.getElem_cons_zero, Act.put, List.setIfInBounds_toArray, List.set_cons_zero, List.set_cons_succ])
      refine wpAnyH_ready (rs := [7]) (by kernel_rfl) (by simp) ?_
      refine AllReadyH.cons rfl (fun K hK => ?_) AllReadyH.nil
      go_simp
      have hB4 : Below w2.heap.size w2 (w3.alloc (.cells g'.arr tGra)) := hB3.alloc hB3.size _
      have hnb := Blk.new w3 g'.arr tGra
      refine hK.out _ _ (by (try dsimp only); exact hmk _ (Only.of_below hB4)) (fun hHeld => ?_)
      clear hK K
      (try simp only [List.getElem_toArray, List.getElem_cons_succ, List.getElem_cons_zero, Act.put, List.setIfInBounds_toArray, List.set_cons_zero, List.set_cons_succ])
      refine wpAnyH_ready (rs := [8]) (by kernel_rfl) (by simp) ?_
      refine AllReadyH.cons rfl (fun K hK => ?_) AllReadyH.nil
      have hB34 : Below w3.heap.size w3 (w3.alloc (.cells g'.arr tGra)) := (Below.refl _ _).alloc (Nat.le_refl _) _
      refine step_append_blk wholeGD Tryd.underlying24 (by rfl) (by decide) encGra_len (by rfl) _ _ (by rfl) _ 0 (.slice a1 Gs.length cap1) Gs (by rfl) (OwnG.later hX2.out.og hB4) g' (encGra_one _) _ (by rfl) _ hnb (by rfl) hl1 hl3 (Nat.zero_le _) ?_
      intro g4 cap4 w4 hO4 hG4 hat4
      have hov4 : Only (fun i => (Value.slice a1 Gs.length cap1).ownBlock = some i) w2 w4 := (Only.of_below hB4).trans (Only.of_grown hG4 (fun i hi => hi))
      have hoa : Only (fun i => (Value.slice a1 Gs.length cap1).ownBlock = some i) (w3.alloc (.cells g'.arr tGra)) w4 := Only.of_grown hG4 (fun i hi => hi)
      have hov4' : Only (OnVG (.slice a1 Gs.length cap1) b) w2 w4 := hov4.mono (fun i hi => .inl hi)
      have hb4 : Blk w4 b #[.slice a1 Gs.length cap1, vw] tBank := hov4.blk hX2.out.blk (hX2.out.og.apart (by decide) hX2.out.blk)
      have c4 := hb4.cell 0 rfl
      have f4 := hb4.free 0
      have hown4 := own_app (v := .slice a1 Gs.length cap1) (v2 := .slice a1 Gs.length cap1) (n4 := Gs.length + 1) (c4 := cap4) hB4.size rfl hat4
      have hin4 : ∀ x ∈ Gs ++ [g'], x.In w4 (grow S2 w2 w4) := put_in hX2.out hov4 hoa hB34 ht1 ht2 (fun y hy => ⟨Nat.le_trans hge (hs1 y hy).1, (hs1 y hy).2⟩) (fun y hy => ⟨Nat.le_trans hge (hs2 y hy).1, (hs2 y hy).2⟩) (OwnG.later hX2.out.og hB4)
      refine hK.out _ _ (by (try dsimp only); exact hmk _ hov4') (fun hHeld => ?_)
      clear hK K
      (try simp only [List.getElem_toArray, List.getElem_cons_succ, List.getElem_cons_zero, Act.put, List.setIfInBounds_toArray, List.set_cons_zero, List.set_cons_succ])
      refine wpAnyH_take (i := 9) (v := ?_) rfl (by kernel_rfl) (by kernel_rfl) (by kernel_rfl) (fun _ _ _ h => h) (Or.inl ⟨by rfl, ?_⟩) (by assumption) ?_
      rotate_left
      · intro w hSw; (try dsimp only at hSw); go_simp; (try with_reducible rfl)
      (try simp only [List.getElem_toArray, List.getElem_cons_succ, List.getElem_cons_zero, Act.put, List.setIfInBounds_toArray, List.set_cons_zero, List.set_cons_succ])
      refine wpAnyH_take (i := 10) (v := ?_) rfl (by kernel_rfl) (by kernel_rfl) (by kernel_rfl) (fun _ _ _ h => h) (Or.inl ⟨by rfl, ?_⟩) (by assumption) ?_
      rotate_left
      · intro w hSw; (try dsimp only at hSw); go_simp; (try with_reducible rfl)
      (try simp only [List.getElem_toArray, List.getElem_cons_succ, List.getElem_cons_zero, Act.put, List.setIfInBounds_toArray, List.set_cons_zero, List.set_cons_succ])
      refine wpAnyH_ready (rs := [11]) (by kernel_rfl) (by simp) ?_
      refine AllReadyH.cons rfl (fun K hK => ?_) AllReadyH.nil
      go_simp
      have hEnd := Lib.hid (hX2.out.turnG hov4 hO4 hown4 hin4 (by simpa using hb4.set 0 (.slice (some ⟨g4, 0, none⟩) (Gs.length + 1) cap4)) (only_setCell (only_refl w4 (some b)) (.inl rfl) (.slice (some ⟨g4, 0, none⟩) (Gs.length + 1) cap4)))
      have hov5 := hov4'.set (p := ⟨b, 0, none⟩) (.inl (.inr rfl)) (.slice (some ⟨g4, 0, none⟩) (Gs.length + 1) cap4)
      refine hK.out _ _ (by (try dsimp only); exact hmk _ hov5) (fun hHeld => ?_)
      clear hK K
      (try simp only [List.getElem_toArray, List.getElem_cons_succ, List.getElem_cons_zero, Act.put, List.setIfInBounds_toArray, List.set_cons_zero, List.set_cons_succ])
      refine wpAnyH_done (by kernel_rfl) ?_ _
      have hgdh := Lib.hid hgd
      clear hgd ht1 ht2 hs1 hs2 hB9 hB3 hge hB4 hnb hB34 hO4 hG4 hat4 hov4 hoa hov4' hb4 c4 f4 hown4 hin4 hov5
      go_wp2
      go_meet
      exact ⟨_, Gs ++ [g'], (by rw [List.length_append]; have e1 : [g'].length = 1 := rfl; omega), hEnd, Lib.hid (by rw [List.map_append, List.map_singleton, hgdh.out])⟩
    · go_simp
      go_at_call 30
      refine (hco _ hwB).mono ?_
      rintro e w3 ⟨g', hgd, rfl, ht1, ht2, hs1, hs2, hB9⟩
      have hB3 := hwB.then (Nat.le_refl _) hB9
      have hge : w2.heap.size ≤ _ := hwB.size
      refine hK.out _ _ (by (try dsimp only); exact hmk _ (Only.of_below hB3)) (fun hHeld => ?_)
      clear hK K
      (try simp only [List.getElem_toArray, List.getElem_cons_succ, List.getElem_cons_zero, Act.put, List.setIfInBounds_toArray, List.set_cons_zero, List.set_cons_succ])
      refine wpAnyH_ready (rs := [4, 7]) (by kernel_rfl) (by simp) ?_
      refine AllReadyH.cons rfl (fun K hK => ?_) (AllReadyH.cons rfl (fun K hK => ?_) AllReadyH.nil)
      · have cW : _ = some (Value.slice a1 Gs.length cap1) := hX2.out.blk.cell 0 rfl
        have cP : _ = some (Value.slice a1 Gs.length cap1) := (hX2.out.blk.later hB3).cell 0 rfl
        go_simp
        refine hK.out _ _ (by (try dsimp only); exact hmk _ (Only.of_below hB3)) (fun hHeld => ?_)
        clear hK K
        (try simp only [List.getElem_toArray, List.getElem_cons_succ, List.getElem_cons_zero, Act.put, List.setIfInBounds_toArray, List.set_cons_zero, List.set_cons_succ])
        refine wpAnyH_ready (rs := [7]) (by kernel_rfl) (by simp) ?_
        refine AllReadyH.cons rfl (fun K hK => ?_) AllReadyH.nil
        go_simp
        have hB4 : Below w2.heap.size w2 (w3.alloc (.cells g'.arr tGra)) := hB3.alloc hB3.size _
        have hnb := Blk.new w3 g'.arr tGra
        refine hK.out _ _ (by (try dsimp only); exact hmk _ (Only.of_below hB4)) (fun hHeld => ?_)
        clear hK K
        (try simp only [List.getElem_toArray, List.getElem_cons_succ, List.getElem_cons_zero, Act.put, List.setIfInBounds_toArray, List.set_cons_zero, List.set_cons_succ])
        refine wpAnyH_ready (rs := [8]) (by kernel_rfl) (by simp) ?_
        refine AllReadyH.cons rfl (fun K hK => ?_) AllReadyH.nil
        have hB34 : Below w3.heap.size w3 (w3.alloc (.cells g'.arr tGra)) := (Below.refl _ _).alloc (Nat.le_refl _) _
        refine step_append_blk wholeGD Tryd.underlying24 (by rfl) (by decide) encGra_len (by rfl) _ _ (by rfl) _ 0 (.slice a1 Gs.length cap1) Gs (by rfl) (OwnG.later hX2.out.og hB4) g' (encGra_one _) _ (by rfl) _ hnb (by rfl) hl1 hl3 (Nat.zero_le _) ?_
        intro g4 cap4 w4 hO4 hG4 hat4
        have hov4 : Only (fun i => (Value.slice a1 Gs.length cap1).ownBlock = some i) w2 w4 := (Only.of_below hB4).trans (Only.of_grown hG4 (fun i hi => hi))
        have hoa : Only (fun i => (Value.slice a1 Gs.length cap1).ownBlock = some i) (w3.alloc (.cells g'.arr tGra)) w4 := Only.of_grown hG4 (fun i hi => hi)
        have hov4' : Only (OnVG (.slice a1 Gs.length cap1) b) w2 w4 := hov4.mono (fun i hi => .inl hi)
        have hb4 : Blk w4 b #[.slice a1 Gs.length cap1, vw] tBank := hov4.blk hX2.out.blk (hX2.out.og.apart (by decide) hX2.out.blk)
        have c4 := hb4.cell 0 rfl
        have f4 := hb4.free 0
        have hown4 := own_app (v := .slice a1 Gs.length cap1) (v2 := .slice a1 Gs.length cap1) (n4 := Gs.length + 1) (c4 := cap4) hB4.size rfl hat4
        have hin4 : ∀ x ∈ Gs ++ [g'], x.In w4 (grow S2 w2 w4) := put_in hX2.out hov4 hoa hB34 ht1 ht2 (fun y hy => ⟨Nat.le_trans hge (hs1 y hy).1, (hs1 y hy).2⟩) (fun y hy => ⟨Nat.le_trans hge (hs2 y hy).1, (hs2 y hy).2⟩) (OwnG.later hX2.out.og hB4)
        refine hK.out _ _ (by (try dsimp only); exact hmk _ hov4') (fun hHeld => ?_)
        clear hK K
        (try simp only [List.getElem_toArray, List.getElem_cons_succ, List.getElem_cons_zero, Act.put, List.setIfInBounds_toArray, List.set_cons_zero, List.set_cons_succ])
        refine wpAnyH_take (i := 9) (v := ?_) rfl (by kernel_rfl) (by kernel_rfl) (by kernel_rfl) (fun _ _ _ h => h) (Or.inl ⟨by rfl, ?_⟩) (by assumption) ?_
        rotate_left
        · intro w hSw; (try dsimp only at hSw); go_simp; (try with_reducible rfl)
        (try simp only [List.getElem_toArray, List.getElem_cons_succ, List.getElem_cons_zero, Act.put, List.setIfInBounds_toArray, List.set_cons_zero, List.set_cons_succ])
        refine wpAnyH_take (i := 10) (v := ?_) rfl (by kernel_rfl) (by kernel_rfl) (by kernel_rfl) (fun _ _ _ h => h) (Or.inl ⟨by rfl, ?_⟩) (by assumption) ?_
        rotate_left
        · intro w hSw; (try dsimp only at hSw); go_simp; (try with_reducible rfl)
        (try simp only [List.getElem_toArray, List.getElem_cons_succ, List.getElem_cons_zero, Act.put, List.setIfInBounds_toArray, List.set_cons_zero, List.set_cons_succ])
        refine wpAnyH_ready (rs := [11]) (by kernel_rfl) (by simp) ?_
        refine AllReadyH.cons rfl (fun K hK => ?_) AllReadyH.nil
        go_simp
        have hEnd := Lib.hid (hX2.out.turnG hov4 hO4 hown4 hin4 (by simpa using hb4.set 0 (.slice (some ⟨g4, 0, none⟩) (Gs.length + 1) cap4)) (only_setCell (only_refl w4 (some b)) (.inl rfl) (.slice (some ⟨g4, 0, none⟩) (Gs.length + 1) cap4)))
        have hov5 := hov4'.set (p := ⟨b, 0, none⟩) (.inl (.inr rfl)) (.slice (some ⟨g4, 0, none⟩) (Gs.length + 1) cap4)
        refine hK.out _ _ (by (try dsimp only); exact hmk _ hov5) (fun hHeld => ?_)
        clear hK K
        (try simp only [List.getElem_toArray, List.getElem_cons_succ, List.getElem_cons_zero, Act.put, List.setIfInBounds_toArray, List.set_cons_zero, List.set_cons_succ])
        refine wpAnyH_done (by kernel_rfl) ?_ _
        have hgdh := Lib.hid hgd
        clear hgd ht1 ht2 hs1 hs2 hB9 hB3 hge hB4 hnb hB34 hO4 hG4 hat4 hov4 hoa hov4' hb4 c4 f4 hown4 hin4 hov5
        go_wp2
        go_meet
        exact ⟨_, Gs ++ [g'], (by rw [List.length_append]; have e1 : [g'].length = 1 := rfl; omega), hEnd, Lib.hid (by rw [List.map_append, List.map_singleton, hgdh.out])⟩
      · go_simp
        have hB4 : Below w2.heap.size w2 (w3.alloc (.cells g'.arr tGra)) := hB3.alloc hB3.size _
        have hnb := Blk.new w3 g'.arr tGra
        refine hK.out _ _ (by (try dsimp only); exact hmk _ (Only.of_below hB4)) (fun hHeld => ?_)
        clear hK K
        (try simp only [List.getElem_toArray, List.getElem_cons_succ, List.getElem_cons_zero, Act.put, List.setIfInBounds_toArray, List.set_cons_zero, List.set_cons_succ])
        refine wpAnyH_ready (rs := [4]) (by kernel_rfl) (by simp) ?_
        refine AllReadyH.cons rfl (fun K hK => ?_) AllReadyH.nil
        have cW : _ = some (Value.slice a1 Gs.length cap1) := hX2.out.blk.cell 0 rfl
        have cP : _ = some (Value.slice a1 Gs.length cap1) := (hX2.out.blk.later hB4).cell 0 rfl
        go_simp
        refine hK.out _ _ (by (try dsimp only); exact hmk _ (Only.of_below hB4)) (fun hHeld => ?_)
        clear hK K
        (try simp only [List.getElem_toArray, List.getElem_cons_succ, List.getElem_cons_zero, Act.put, List.setIfInBounds_toArray, List.set_cons_zero, List.set_cons_succ])
        refine wpAnyH_ready (rs := [8]) (by kernel_rfl) (by simp) ?_
        refine AllReadyH.cons rfl (fun K hK => ?_) AllReadyH.nil
        have hB34 : Below w3.heap.size w3 (w3.alloc (.cells g'.arr tGra)) := (Below.refl _ _).alloc (Nat.le_refl _) _
        refine step_append_blk wholeGD Tryd.underlying24 (by rfl) (by decide) encGra_len (by rfl) _ _ (by rfl) _ 0 (.slice a1 Gs.length cap1) Gs (by rfl) (OwnG.later hX2.out.og hB4) g' (encGra_one _) _ (by rfl) _ hnb (by rfl) hl1 hl3 (Nat.zero_le _) ?_
        intro g4 cap4 w4 hO4 hG4 hat4
        have hov4 : Only (fun i => (Value.slice a1 Gs.length cap1).ownBlock = some i) w2 w4 := (Only.of_below hB4).trans (Only.of_grown hG4 (fun i hi => hi))
        have hoa : Only (fun i => (Value.slice a1 Gs.length cap1).ownBlock = some i) (w3.alloc (.cells g'.arr tGra)) w4 := Only.of_grown hG4 (fun i hi => hi)
        have hov4' : Only (OnVG (.slice a1 Gs.length cap1) b) w2 w4 := hov4.mono (fun i hi => .inl hi)
        have hb4 : Blk w4 b #[.slice a1 Gs.length cap1, vw] tBank := hov4.blk hX2.out.blk (hX2.out.og.apart (by decide) hX2.out.blk)
        have c4 := hb4.cell 0 rfl
        have f4 := hb4.free 0
        have hown4 := own_app (v := .slice a1 Gs.length cap1) (v2 := .slice a1 Gs.length cap1) (n4 := Gs.length + 1) (c4 := cap4) hB4.size rfl hat4
        have hin4 : ∀ x ∈ Gs ++ [g'], x.In w4 (grow S2 w2 w4) := put_in hX2.out hov4 hoa hB34 ht1 ht2 (fun y hy => ⟨Nat.le_trans hge (hs1 y hy).1, (hs1 y hy).2⟩) (fun y hy => ⟨Nat.le_trans hge (hs2 y hy).1, (hs2 y hy).2⟩) (OwnG.later hX2.out.og hB4)
        refine hK.out _ _ (by (try dsimp only); exact hmk _ hov4') (fun hHeld => ?_)
        clear hK K
        (try simp only [List.getElem_toArray, List.getElem_cons_succ, List.getElem_cons_zero, Act.put, List.setIfInBounds_toArray, List.set_cons_zero, List.set_cons_succ])
        refine wpAnyH_take (i := 9) (v := ?_) rfl (by kernel_rfl) (by kernel_rfl) (by kernel_rfl) (fun _ _ _ h => h) (Or.inl ⟨by rfl, ?_⟩) (by assumption) ?_
        rotate_left
        · intro w hSw; (try dsimp only at hSw); go_simp; (try with_reducible rfl)
        (try simp only [List.getElem_toArray, List.getElem_cons_succ, List.getElem_cons_zero, Act.put, List.setIfInBounds_toArray, List.set_cons_zero, List.set_cons_succ])
        refine wpAnyH_take (i := 10) (v := ?_) rfl (by kernel_rfl) (by kernel_rfl) (by kernel_rfl) (fun _ _ _ h => h) (Or.inl ⟨by rfl, ?_⟩) (by assumption) ?_
        rotate_left
        · intro w hSw; (try dsimp only at hSw); go_simp; (try with_reducible rfl)
        (try simp only [List.getElem_toArray, List.getElem_cons_succ, List.getElem_cons_zero, Act.put, List.setIfInBounds_toArray, List.set_cons_zero, List.set_cons_succ])
        refine wpAnyH_ready (rs := [11]) (by kernel_rfl) (by simp) ?_
        refine AllReadyH.cons rfl (fun K hK => ?_) AllReadyH.nil
        go_simp
        have hEnd := Lib.hid (hX2.out.turnG hov4 hO4 hown4 hin4 (by simpa using hb4.set 0 (.slice (some ⟨g4, 0, none⟩) (Gs.length + 1) cap4)) (only_setCell (only_refl w4 (some b)) (.inl rfl) (.slice (some ⟨g4, 0, none⟩) (Gs.length + 1) cap4)))
        have hov5 := hov4'.set (p := ⟨b, 0, none⟩) (.inl (.inr rfl)) (.slice (some ⟨g4, 0, none⟩) (Gs.length + 1) cap4)
        refine hK.out _ _ (by (try dsimp only); exact hmk _ hov5) (fun hHeld => ?_)
        clear hK K
        (try simp only [List.getElem_toArray, List.getElem_cons_succ, List.getElem_cons_zero, Act.put, List.setIfInBounds_toArray, List.set_cons_zero, List.set_cons_succ])
        refine wpAnyH_done (by kernel_rfl) ?_ _
        have hgdh := Lib.hid hgd
        clear hgd ht1 ht2 hs1 hs2 hB9 hB3 hge hB4 hnb hB34 hO4 hG4 hat4 hov4 hoa hov4' hb4 c4 f4 hown4 hin4 hov5
        go_wp2
        go_meet
        exact ⟨_, Gs ++ [g'], (by rw [List.length_append]; have e1 : [g'].length = 1 := rfl; omega), hEnd, Lib.hid (by rw [List.map_append, List.map_singleton, hgdh.out])⟩
  case rest =>
    obtain ⟨v5, Hs, hHl, hXT, hHm⟩ := hcut
    rename World => w5
    have hX5 := hXT.out.1
    obtain ⟨a5, cap5, rfl, _⟩ := OwnG.shape encGra_len hX5.og
    have c5 : _ = some (Value.slice a5 Hs.length cap5) := hX5.blk.cell 0 rfl
    clear hmk hco hwB
    by_cases hn : 8 < Hs.length
    · have hd := deleteG 0 (Hs.length - 8) 0 _ Hs w5 hX5.og (by omega) (by omega) (by omega)
      rw [List.take_zero, List.nil_append, show ((0 : Nat) : Int) = 0 from rfl, show (((Hs.length - 8 : Nat)) : Int) = (Hs.length : Int) - 8 by omega] at hd
      have hX5h := Lib.hid hX5
      clear hX5
      go_wp2_with fail
      refine hd.mono ?_
      rintro e w6 ⟨v6, rfl, hO6, ho6, hb6⟩
      obtain ⟨a6, cap6, e6, _⟩ := OwnG.shape encGra_len hO6
      rw [List.length_drop] at e6
      subst e6
      have hbx : Blk w6 b #[.slice a5 Hs.length cap5, vw] tBank := ho6.blk hX5h.out.blk (hX5h.out.og.apart (by decide) hX5h.out.blk)
      have hO6h := Lib.hid hO6
      have ho6h := Lib.hid ho6
      have hb6h := Lib.hid hb6
      clear hd hO6 ho6 hb6 c5
      go_wp2_with (refine wpList_store_cell rfl _ _ _ (by rfl) b 0 (by rfl) hbx (by decide : 0 < 2) (.slice a6 (Hs.length - (Hs.length - 8)) cap6) (by rfl) (by rfl) (by rfl) infoGrantsF ?_; intro w7 hb7 hg7)
      have hb7' : Blk w7 b #[.slice a6 (Hs.length - (Hs.length - 8)) cap6, vw] tBank := hb7
      have hX7 := hX5h.out.turnG ho6h.out hO6h.out (own_same hb6h.out) (fun x hx => ((hX5h.out.ing x (List.mem_of_mem_drop hx)).own (by decide) hX5h.out.og ho6h.out).mono (fun i hi => ⟨.inl hi, Nat.lt_of_lt_of_le (hX5h.out.bd i hi) ho6h.out.size⟩)) hb7' hg7
      have hX7h := Lib.hid hX7
      clear hX7 hb7 hg7 hbx hb7'
      have hs1 := hB1.out.size
      have hs2 := hT2h.out.size
      have hs5 := hXT.out.2.size
      have hs7 := hX7h.out.2.size
      have hmp : Hid ((Hs.drop (Hs.length - 8)).map Gra.d = bankPut g.d gs) := Lib.hid (by
        rw [hpe.out, ← hmGh.out, ← hHm.out]
        unfold lastB
        rw [List.map_drop, List.length_map])
      go_end0
      refine ⟨rfl, ?_, ?_⟩
      · rw [← hmp.out, ← hmWh.out]
        refine put_fin hX7h.out.1 ?_ ?_ ?_
        · rintro i ⟨h1 | h1, _⟩
          · rcases h1.1 with h2 | h2
            · rw [hS2h.out] at h2
              exact h2.1.imp id (fun h => by omega)
            · exact .inr (by omega)
          · exact .inr (by omega)
        · intro x hx
          rw [List.map_drop] at hx
          have hx2 := List.mem_of_mem_drop hx
          rw [hHm.out, hmGh.out] at hx2
          rcases List.mem_append.1 hx2 with h | h
          · exact hokG.out x h
          · rw [List.mem_singleton.1 h]; exact hokH.out
        · rw [hmWh.out]; exact hokW.out
      · have hT5 := hXT.out.2
        have hT7 := hX7h.out.2
        rw [hS2h.out] at hT5 hT7
        exact put_onlyT hB1.out hbS.out ((OnlyT.trans hT2h.out hT5).trans (hT7.mono (fun i e => ⟨grow_trans (by omega) i e.1, e.2⟩)))
    · have hs1 := hB1.out.size
      have hs2 := hT2h.out.size
      have hs5 := hXT.out.2.size
      have hX5h := Lib.hid hX5
      have hmp : Hid (Hs.map Gra.d = bankPut g.d gs) := Lib.hid (by
        rw [hpe.out, ← hmGh.out, ← hHm.out]
        unfold lastB
        rw [List.length_map, Nat.sub_eq_zero_of_le (by omega)]
        rfl)
      clear hX5
      go_wp2
      go_end0
      refine ⟨rfl, ?_, ?_⟩
      · rw [← hmp.out, ← hmWh.out]
        refine put_fin hX5h.out ?_ ?_ ?_
        · rintro i ⟨h1 | h1, _⟩
          · rw [hS2h.out] at h1
            exact h1.1.imp id (fun h => by omega)
          · exact .inr (by omega)
        · intro x hx
          rw [hHm.out, hmGh.out] at hx
          rcases List.mem_append.1 hx with h | h
          · exact hokG.out x h
          · rw [List.mem_singleton.1 h]; exact hokH.out
        · rw [hmWh.out]; exact hokW.out
      · have hT5 := hXT.out.2
        rw [hS2h.out] at hT5
        exact put_onlyT hB1.out hbS.out (OnlyT.trans hT2h.out hT5)
end Go.Proofs.YtchgpdgigpaloaaDoor
