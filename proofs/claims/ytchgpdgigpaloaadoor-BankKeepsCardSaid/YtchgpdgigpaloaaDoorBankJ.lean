/- The program's bank: Asked. -/
import Derived.Test.YtchgpdgigpaloaaDoorBankI
namespace Go.Proofs.YtchgpdgigpaloaaDoor
set_option linter.unusedSimpArgs false
open Go.RowKit Go.Deep
theorem BankX.kept {w w' : World} {b : Nat} {S S' : Nat → Prop} {vg vw : Value} {Gs : List Gra} {Ws : List Wai} (h : BankX w b S vg vw Gs Ws) (ho : Only S' w w') (hd : ∀ i, S i → ¬ S' i) : BankX w' b S vg vw Gs Ws :=
  ⟨ho.blk h.blk (hd b h.sb), h.og.kept ho (fun g hg => hd g (h.sg g hg)), h.ow.kept ho (fun g hg => hd g (h.sw g hg)), h.sg, h.sw, fun g hg => (h.ing g hg).kept ho hd, fun g hg => (h.inw g hg).kept ho hd, h.sb, fun i hi => Nat.lt_of_lt_of_le (h.bd i hi) ho.size⟩
/-- what is waited for, and one more, behind an append -/
theorem ask_in {w4 w6 : World} {b : Nat} {S4 : Nat → Prop} {vg vw : Value} {Gs : List Gra} {Ws : List Wai} {x' : Wai} (hX : BankX w4 b S4 vg vw Gs Ws) (hov : Only (fun i => vw.ownBlock = some i) w4 w6) (hx' : x'.In w4 S4) : ∀ y ∈ Ws ++ [x'], y.In w6 (grow S4 w4 w6) := by
  intro y hy
  have h1 : y.In w4 S4 := by
    rcases List.mem_append.1 hy with h | h
    · exact hX.inw y h
    · rw [List.mem_singleton.1 h]; exact hx'
  exact (h1.own (by decide) hX.ow hov).mono (fun i hi => ⟨.inl hi, Nat.lt_of_lt_of_le (hX.bd i hi) hov.size⟩)
theorem put_finW {w w7 : World} {b : Nat} {S S7 : Nat → Prop} {vg vw : Value} {Gs : List Gra} {Hs : List Wai} (hX : BankX w7 b S7 vg vw Gs Hs) (hS7 : ∀ i, S7 i → S i ∨ w.heap.size ≤ i) (hg : ∀ g ∈ Gs.map Gra.d, g.Ok) (hw : ∀ x ∈ Hs.map Wai.d, x.Ok) : BankR w7 b (grow S w w7) (Gs.map Gra.d) (Hs.map Wai.d) :=
  (hX.mono (fun i hi => ⟨hS7 i hi, hX.bd i hi⟩) (fun _ hi => hi.2)).r hg hw
theorem take_len (o : Org) (p : Bool) (ws : List WaiD) : (bankTake o p ws).length ≤ ws.length := List.length_filter_le _ _
theorem rngW {w : World} {q : Nat} {g : Wai} (h : Blk w q g.arr tWai) : w.rangeAt q 0 [.bool g.orig.sec, .string g.orig.host, .int .i64 g.orig.port] := fun j v hv => by
  match j, hv with
  | 0, hv => cases hv; exact h.cell 0 rfl
  | 1, hv => cases hv; exact h.cell 1 rfl
  | 2, hv => cases hv; exact h.cell 2 rfl
def AskedPost (x : WaiD) (b : Nat) (S : Nat → Prop) (gs : List GraD) (ws : List WaiD) (w : World) (e : Ending) (w' : World) : Prop :=
  e = .returned (.tuple #[]) ∧ BankR w' b (grow S w w') gs (bankAsked x ws) ∧ OnlyT S w w'
set_option maxRecDepth 100000 in
set_option maxHeartbeats 4000000 in
theorem bankAskedP (b : Nat) (S : Nat → Prop) (gs : List GraD) (ws : List WaiD) (x : Wai) (w : World) (hB : BankR w b S gs ws) (hl : gs.length ≤ 100000) (hl2 : ws.length ≤ 1000) (h1w : OneW ws) (hok : x.d.Ok)
    (htx : ∀ W, OnlyT S w W → StrAt W x.ask.addr x.ask.d.domain) :
    Calls Tryd.prog 12 #[.pointer (some ⟨b, 0, none⟩), .agg x.arr] w (AskedPost x.d b S gs ws w) := by
  have hal := (Below.refl w.heap.size w).alloc (Nat.le_refl _) (.cells x.arr tWai)
  have hq0 := Blk.new w x.arr tWai
  have hbS := Lib.hid hB.bd
  have hokH := Lib.hid hok
  have htH := Lib.hid htx
  go_enter Tryd.func12, Tryd.ntmps12
  go_upto_region 1 with (fail)
  generalize w.alloc (.cells x.arr tWai) = w1 at hal hq0 ⊢
  have hdr := bankTakeP b S gs ws x.orig x.proxy w1 (hB.later hal) hl (by omega) h1w
  have hB1 := Lib.hid hal
  have hqH := Lib.hid hq0
  have hro := rngW hq0
  have c3 : _ = some (Value.bool x.proxy) := hq0.cell 3 rfl
  have hbd := take_len x.orig x.proxy ws
  have hpe : Hid (bankAsked x.d ws = lastB 8 (bankTake x.orig x.proxy ws ++ [x.d])) := Lib.hid rfl
  clear hB hal hok htx hq0 h1w
  go_wp2_with (refine wpList_load_mid rfl 32 _ rfl w.heap.size 0 rfl [.bool x.orig.sec, .string x.orig.host, .int .i64 x.orig.port] _ hro Tryd.underlying32 rfl infoOrgB ?_)
  refine hdr.mono ?_
  rintro e w2 ⟨x0, _, rfl, _, hR2, hT2⟩
  generalize bankTake x.orig x.proxy ws = wd at hR2 hbd hpe
  have hokG := Lib.hid hR2.okG
  have hokW := Lib.hid hR2.okW
  obtain ⟨vg, vw, Gs, Ws, hX, hmG, hmW⟩ := hR2.x
  have hX2 := Lib.hid hX
  have hmGh := Lib.hid hmG
  have hmWh := Lib.hid hmW
  have hT02 := Lib.hid (put_onlyT hB1.out hbS.out hT2)
  have hq2 : Blk w2 w.heap.size x.arr tWai := hT2.only.blk hqH.out (fun e => by have := hbS.out _ e; omega)
  have hlW : Ws.length ≤ 1000 := by rw [← hmW, List.length_map] at hbd; omega
  have hl1 : Ws.length + 1 ≤ maxLen := by unfold maxLen; omega
  have hl3 : (Ws.length + 1) * 168 ≤ 140737488355328 := by omega
  have hcl := cloneS x.ask.addr x.ask.cap x.ask.d.domain w2 (htH.out w2 hT02.out) (Nat.le_trans (show x.ask.d.domain.length ≤ 100000 from hokH.out.l1) (by decide))
  have c12 : _ = some (Value.slice x.ask.addr x.ask.d.domain.length x.ask.cap) := hq2.cell 12 rfl
  have hs12 := Lib.hid hT2.size
  have hq2H := Lib.hid hq2
  clear hR2 hT2 hX hmG hmW hdr hro c3 hq2
  go_upto_region 2 with (fail)
  go_wp2_with fail
  refine hcl.mono ?_
  rintro e w3 ⟨v3, rfl, hS3, hB3⟩
  obtain ⟨a3, c3, rfl, _⟩ := OwnStr.shape hS3
  have hq3 := hq2H.out.later hB3
  have hS3h := Lib.hid hS3
  have hB3h := Lib.hid hB3
  clear hcl hS3 hB3 c12
  go_upto_region 3 with (refine wpList_store_cell rfl _ _ _ (by rfl) w.heap.size 12 (by rfl) hq3 (by decide : 12 < 13) (.slice a3 x.ask.d.domain.length c3) (by rfl) (by rfl) (by rfl) infoStrsA ?_; intro w4 hq4 hg4)
  obtain ⟨x', hx'⟩ : ∃ x' : Wai, x' = ⟨x.orig, x.proxy, x.path, ⟨x.ask.d, a3, c3⟩⟩ := ⟨_, rfl⟩
  have hq4' : Blk w4 w.heap.size x'.arr tWai := by rw [hx']; exact hq4
  have ho4 : Only (fun i => i = w.heap.size) w3 w4 := Only.of_grown hg4 (fun i e => (Option.some.inj e).symm)
  have hs3 := hB3h.out.size
  have hs4 := ho4.size
  have hq3l := hq2H.out.lt
  have hq1l := hqH.out.lt
  have hs1 := hB1.out.size
  have hs12o := hs12.out
  have hnS2 : ¬ grow S w1 w2 w.heap.size := fun e => by
    rcases e.1 with h | h
    · have := hbS.out _ h; omega
    · omega
  have hxd : Hid (x'.d = x.d) := Lib.hid (by rw [hx'])
  have ht3 : TxtAt w4 a3 x.ask.d.domain := hS3h.out.txt.kept ho4 (fun _ y hy e => by have := (OwnStr.lies hS3h.out y hy).1; omega)
  have hinx : Hid (x'.In w4 (grow (grow S w1 w2) w2 w4)) := Lib.hid (by
    rw [hx']
    exact ⟨ht3, fun _ y hy => ⟨.inr (OwnStr.lies hS3h.out y hy).1, by have := (OwnStr.lies hS3h.out y hy).2; omega⟩⟩)
  have hX4 := Lib.hid (((hX2.out.later hB3h.out).kept ho4 (fun i hi e => hnS2 (by rw [← e]; exact hi))).mono (S' := grow (grow S w1 w2) w2 w4) (fun i hi => ⟨.inl hi, by have := hX2.out.bd i hi; omega⟩) (fun _ hi => hi.2))
  have hT04 : Hid (OnlyT S w w4) := Lib.hid (OnlyT.trans hT02.out ((OnlyT.of_below hB3h.out : OnlyT (grow S w w2) w2 w3).trans (ho4.mono (fun i e => ⟨⟨.inl ⟨.inr (by omega), by omega⟩, by omega⟩, by rw [e]; exact noTxt_blk hq3 (by decide)⟩))))
  obtain ⟨S4, hS4⟩ : ∃ S4, S4 = grow (grow S w1 w2) w2 w4 := ⟨_, rfl⟩
  rw [← hS4] at hX4 hinx
  have hS4h := Lib.hid hS4
  have hq0n : ¬ S4 w.heap.size := fun e => by
    rw [hS4] at e
    rcases e.1 with h | h
    · exact hnS2 h
    · omega
  obtain ⟨a1, cap1, rfl, _⟩ := OwnG.shape encWai_len hX4.out.ow
  have hmk : ∀ w', Only (OnVG (.slice a1 Ws.length cap1) b) w4 w' → Only (OnVG (.slice a1 Ws.length cap1) b) w4 w' ∧ Blk w' w.heap.size x'.arr tWai := fun w' ho =>
    ⟨ho, ho.blk hq4' (fun e => by rcases e with e | e; exact hq0n (hX4.out.sw _ e); exact hq0n (by rw [e]; exact hX4.out.sb))⟩
  have hwB : Below w4.heap.size w4 w4.drew := (Below.refl _ _).drew
  clear hq3 hq4 hg4 hx' ho4 ht3 hS4 hnS2
  go_frame
  go_cut [] (fun wx => ∃ (v5 : Value) (Hs : List Wai), Hs.length ≤ 1001 ∧ Hid (BankX wx b (grow S4 w4 wx) vg v5 Gs Hs ∧ OnlyT S4 w4 wx) ∧ Hid (Hs.map Wai.d = Ws.map Wai.d ++ [x.d]))
  case first =>
    refine wp_region_held_drew (S := fun w' => Only (OnVG (.slice a1 Ws.length cap1) b) w4 w' ∧ Blk w' w.heap.size x'.arr tWai) (by kernel_rfl) (by (try dsimp only); exact hmk _ (Only.of_below hwB)) (fun hHeld => ?_)
    refine wpAnyH_take (i := 0) (v := ?_) rfl (by kernel_rfl) (by kernel_rfl) (by kernel_rfl) (fun _ _ _ h => h) (Or.inl ⟨by rfl, ?_⟩) (by assumption) ?_
    rotate_left
    · intro w hSw; (try dsimp only at hSw); go_simp; (try with_reducible rfl)
    (try simp only [List.getElem_toArray, List.getElem_cons_succ, List.getElem_cons_zero, Act.put, List.setIfInBounds_toArray, List.set_cons_zero, List.set_cons_succ])
    refine wpAnyH_take (i := 1) (v := ?_) rfl (by kernel_rfl) (by kernel_rfl) (by kernel_rfl) (fun _ _ _ h => h) (Or.inl ⟨by rfl, ?_⟩) (by assumption) ?_
    rotate_left
    · intro w hSw; (try dsimp only at hSw); go_simp; (try with_reducible rfl)
    (try simp only [List.getElem_toArray, List.getElem_cons_succ, List.getElem_cons_zero, Act.put, List.setIfInBounds_toArray, List.set_cons_zero, List.set_cons_succ])
    refine wpAnyH_take (i := 2) (v := ?_) rfl (by kernel_rfl) (by kernel_rfl) (by kernel_rfl) (fun _ _ _ h => h) (Or.inl ⟨by rfl, ?_⟩) (by assumption) ?_
    rotate_left
    · intro w hSw; (try dsimp only at hSw); go_simp; (try with_reducible rfl)
    (try simp only [List.getElem_toArray, List.getElem_cons_succ, List.getElem_cons_zero, Act.put, List.setIfInBounds_toArray, List.set_cons_zero, List.set_cons_succ])
    refine wpAnyH_take (i := 3) (v := ?_) rfl (by kernel_rfl) (by kernel_rfl) (by kernel_rfl) (fun _ _ _ h => h) (Or.inl ⟨by rfl, ?_⟩) (by assumption) ?_
    rotate_left
    · intro w hSw; (try dsimp only at hSw); go_simp; (try with_reducible rfl)
    (try simp only [List.getElem_toArray, List.getElem_cons_succ, List.getElem_cons_zero, Act.put, List.setIfInBounds_toArray, List.set_cons_zero, List.set_cons_succ])
    refine wpAnyH_take (i := 5) (v := .agg x'.arr) rfl (by kernel_rfl) (by kernel_rfl) (by kernel_rfl) (fun _ _ _ h => h) (yieldsIf_load_mid (by rfl) tWai _ rfl w.heap.size 0 (by rfl) (encWai x') _ (fun w h => h.2.range) undWai rfl infoWai) (by assumption) ?_
    (try simp only [List.getElem_toArray, List.getElem_cons_succ, List.getElem_cons_zero, Act.put, List.setIfInBounds_toArray, List.set_cons_zero, List.set_cons_succ])
    refine wpAnyH_ready (rs := [4, 6]) (by kernel_rfl) (by simp) ?_
    refine AllReadyH.cons rfl (fun K hK => ?_) (AllReadyH.cons rfl (fun K hK => ?_) AllReadyH.nil)
    · have cW : _ = some (Value.slice a1 Ws.length cap1) := hX4.out.blk.cell 1 rfl
      have cP : _ = some (Value.slice a1 Ws.length cap1) := (hX4.out.blk.later hwB).cell 1 rfl
      go_simp
      refine hK.out _ _ (by (try dsimp only); exact hmk _ (Only.of_below hwB)) (fun hHeld => ?_)
      clear hK K
      (try simp only [List.getElem_toArray, List.getElem_cons_succ, List.getElem_cons_zero, Act.put, List.setIfInBounds_toArray, List.set_cons_zero, List.set_cons_succ])
      refine wpAnyH_ready (rs := [6]) (by kernel_rfl) (by simp) ?_
      refine AllReadyH.cons rfl (fun K hK => ?_) AllReadyH.nil
      go_simp
      have hB5 : Below w4.heap.size w4 (w4.drew.alloc (.cells x'.arr tWai)) := hwB.alloc hwB.size _
      have hnb := Blk.new w4.drew x'.arr tWai
      refine hK.out _ _ (by (try dsimp only); exact hmk _ (Only.of_below hB5)) (fun hHeld => ?_)
      clear hK K
      (try simp only [List.getElem_toArray, List.getElem_cons_succ, List.getElem_cons_zero, Act.put, List.setIfInBounds_toArray, List.set_cons_zero, List.set_cons_succ])
      refine wpAnyH_ready (rs := [7]) (by kernel_rfl) (by simp) ?_
      refine AllReadyH.cons rfl (fun K hK => ?_) AllReadyH.nil
      refine step_append_blk wholeWD Tryd.underlying25 (by rfl) (by decide) encWai_len (by rfl) _ _ (by rfl) _ 0 (.slice a1 Ws.length cap1) Ws (by rfl) (OwnG.later hX4.out.ow hB5) x' (encWai_one _) _ (by rfl) _ hnb (by rfl) hl1 hl3 (Nat.zero_le _) ?_
      intro g4 cap4 w6 hO6 hG6 hat6
      have hov6 : Only (fun i => (Value.slice a1 Ws.length cap1).ownBlock = some i) w4 w6 := (Only.of_below hB5).trans (Only.of_grown hG6 (fun i hi => hi))
      have hov6' : Only (OnVG (.slice a1 Ws.length cap1) b) w4 w6 := hov6.mono (fun i hi => .inl hi)
      have hb6 : Blk w6 b #[vg, .slice a1 Ws.length cap1] tBank := hov6.blk hX4.out.blk (hX4.out.ow.apart (by decide) hX4.out.blk)
      have c4 := hb6.cell 1 rfl
      have f4 := hb6.free 1
      have hown6 := own_app (v := .slice a1 Ws.length cap1) (v2 := .slice a1 Ws.length cap1) (n4 := Ws.length + 1) (c4 := cap4) hB5.size rfl hat6
      have hin6 : ∀ y ∈ Ws ++ [x'], y.In w6 (grow S4 w4 w6) := ask_in hX4.out hov6 hinx.out
      refine hK.out _ _ (by (try dsimp only); exact hmk _ hov6') (fun hHeld => ?_)
      clear hK K
      (try simp only [List.getElem_toArray, List.getElem_cons_succ, List.getElem_cons_zero, Act.put, List.setIfInBounds_toArray, List.set_cons_zero, List.set_cons_succ])
      refine wpAnyH_take (i := 8) (v := ?_) rfl (by kernel_rfl) (by kernel_rfl) (by kernel_rfl) (fun _ _ _ h => h) (Or.inl ⟨by rfl, ?_⟩) (by assumption) ?_
      rotate_left
      · intro w hSw; (try dsimp only at hSw); go_simp; (try with_reducible rfl)
      (try simp only [List.getElem_toArray, List.getElem_cons_succ, List.getElem_cons_zero, Act.put, List.setIfInBounds_toArray, List.set_cons_zero, List.set_cons_succ])
      refine wpAnyH_take (i := 9) (v := ?_) rfl (by kernel_rfl) (by kernel_rfl) (by kernel_rfl) (fun _ _ _ h => h) (Or.inl ⟨by rfl, ?_⟩) (by assumption) ?_
      rotate_left
      · intro w hSw; (try dsimp only at hSw); go_simp; (try with_reducible rfl)
      (try simp only [List.getElem_toArray, List.getElem_cons_succ, List.getElem_cons_zero, Act.put, List.setIfInBounds_toArray, List.set_cons_zero, List.set_cons_succ])
      refine wpAnyH_ready (rs := [10]) (by kernel_rfl) (by simp) ?_
      refine AllReadyH.cons rfl (fun K hK => ?_) AllReadyH.nil
      go_simp
      have hEnd := Lib.hid (hX4.out.turnW hov6 hO6 hown6 hin6 (by simpa using hb6.set 1 (.slice (some ⟨g4, 0, none⟩) (Ws.length + 1) cap4)) (only_setCell (only_refl w6 (some b)) (.inl rfl) (.slice (some ⟨g4, 0, none⟩) (Ws.length + 1) cap4)))
      have hov5 := hov6'.set (p := ⟨b, 1, none⟩) (.inl (.inr rfl)) (.slice (some ⟨g4, 0, none⟩) (Ws.length + 1) cap4)
      refine hK.out _ _ (by (try dsimp only); exact hmk _ hov5) (fun hHeld => ?_)
      clear hK K
      (try simp only [List.getElem_toArray, List.getElem_cons_succ, List.getElem_cons_zero, Act.put, List.setIfInBounds_toArray, List.set_cons_zero, List.set_cons_succ])
      refine wpAnyH_done (by kernel_rfl) ?_ _
      clear hB5 hnb hO6 hG6 hat6 hov6 hov6' hb6 c4 f4 hown6 hin6 hov5
      go_wp2
      go_meet
      exact ⟨_, Ws ++ [x'], (by rw [List.length_append]; have e1 : [x'].length = 1 := rfl; omega), hEnd, Lib.hid (by rw [List.map_append, List.map_singleton, hxd.out])⟩
    · go_simp
      have hB5 : Below w4.heap.size w4 (w4.drew.alloc (.cells x'.arr tWai)) := hwB.alloc hwB.size _
      have hnb := Blk.new w4.drew x'.arr tWai
      refine hK.out _ (w4.drew.alloc (.cells x'.arr tWai)) (by (try dsimp only); exact hmk _ (Only.of_below hB5)) (fun hHeld => ?_)
      clear hK K
      (try simp only [List.getElem_toArray, List.getElem_cons_succ, List.getElem_cons_zero, Act.put, List.setIfInBounds_toArray, List.set_cons_zero, List.set_cons_succ])
      generalize hwq : w4.drew.alloc (.cells x'.arr tWai) = wq at *
      refine wpAnyH_ready (rs := [4]) (by kernel_rfl) (by simp) ?_
      refine AllReadyH.cons rfl (fun K hK => ?_) AllReadyH.nil
      have cW : _ = some (Value.slice a1 Ws.length cap1) := hX4.out.blk.cell 1 rfl
      have cP : _ = some (Value.slice a1 Ws.length cap1) := (hX4.out.blk.later hB5).cell 1 rfl
      go_simp
      refine hK.out _ _ (by (try dsimp only); exact hmk _ (Only.of_below hB5)) (fun hHeld => ?_)
      clear hK K
      (try simp only [List.getElem_toArray, List.getElem_cons_succ, List.getElem_cons_zero, Act.put, List.setIfInBounds_toArray, List.set_cons_zero, List.set_cons_succ])
      refine wpAnyH_ready (rs := [7]) (by kernel_rfl) (by simp) ?_
      refine AllReadyH.cons rfl (fun K hK => ?_) AllReadyH.nil
      refine step_append_blk wholeWD Tryd.underlying25 (by rfl) (by decide) encWai_len (by rfl) _ _ (by rfl) _ 0 (.slice a1 Ws.length cap1) Ws (by rfl) (OwnG.later hX4.out.ow hB5) x' (encWai_one _) _ (by rfl) _ hnb (by rfl) hl1 hl3 (Nat.zero_le _) ?_
      intro g4 cap4 w6 hO6 hG6 hat6
      have hov6 : Only (fun i => (Value.slice a1 Ws.length cap1).ownBlock = some i) w4 w6 := (Only.of_below hB5).trans (Only.of_grown hG6 (fun i hi => hi))
      have hov6' : Only (OnVG (.slice a1 Ws.length cap1) b) w4 w6 := hov6.mono (fun i hi => .inl hi)
      have hb6 : Blk w6 b #[vg, .slice a1 Ws.length cap1] tBank := hov6.blk hX4.out.blk (hX4.out.ow.apart (by decide) hX4.out.blk)
      have c4 := hb6.cell 1 rfl
      have f4 := hb6.free 1
      have hown6 := own_app (v := .slice a1 Ws.length cap1) (v2 := .slice a1 Ws.length cap1) (n4 := Ws.length + 1) (c4 := cap4) hB5.size rfl hat6
      have hin6 : ∀ y ∈ Ws ++ [x'], y.In w6 (grow S4 w4 w6) := ask_in hX4.out hov6 hinx.out
      refine hK.out _ _ (by (try dsimp only); exact hmk _ hov6') (fun hHeld => ?_)
      clear hK K
      (try simp only [List.getElem_toArray, List.getElem_cons_succ, List.getElem_cons_zero, Act.put, List.setIfInBounds_toArray, List.set_cons_zero, List.set_cons_succ])
      refine wpAnyH_take (i := 8) (v := ?_) rfl (by kernel_rfl) (by kernel_rfl) (by kernel_rfl) (fun _ _ _ h => h) (Or.inl ⟨by rfl, ?_⟩) (by assumption) ?_
      rotate_left
      · intro w hSw; (try dsimp only at hSw); go_simp; (try with_reducible rfl)
      (try simp only [List.getElem_toArray, List.getElem_cons_succ, List.getElem_cons_zero, Act.put, List.setIfInBounds_toArray, List.set_cons_zero, List.set_cons_succ])
      refine wpAnyH_take (i := 9) (v := ?_) rfl (by kernel_rfl) (by kernel_rfl) (by kernel_rfl) (fun _ _ _ h => h) (Or.inl ⟨by rfl, ?_⟩) (by assumption) ?_
      rotate_left
      · intro w hSw; (try dsimp only at hSw); go_simp; (try with_reducible rfl)
      (try simp only [List.getElem_toArray, List.getElem_cons_succ, List.getElem_cons_zero, Act.put, List.setIfInBounds_toArray, List.set_cons_zero, List.set_cons_succ])
      refine wpAnyH_ready (rs := [10]) (by kernel_rfl) (by simp) ?_
      refine AllReadyH.cons rfl (fun K hK => ?_) AllReadyH.nil
      go_simp
      have hEnd := Lib.hid (hX4.out.turnW hov6 hO6 hown6 hin6 (by simpa using hb6.set 1 (.slice (some ⟨g4, 0, none⟩) (Ws.length + 1) cap4)) (only_setCell (only_refl w6 (some b)) (.inl rfl) (.slice (some ⟨g4, 0, none⟩) (Ws.length + 1) cap4)))
      have hov5 := hov6'.set (p := ⟨b, 1, none⟩) (.inl (.inr rfl)) (.slice (some ⟨g4, 0, none⟩) (Ws.length + 1) cap4)
      refine hK.out _ _ (by (try dsimp only); exact hmk _ hov5) (fun hHeld => ?_)
      clear hK K
      (try simp only [List.getElem_toArray, List.getElem_cons_succ, List.getElem_cons_zero, Act.put, List.setIfInBounds_toArray, List.set_cons_zero, List.set_cons_succ])
      refine wpAnyH_done (by kernel_rfl) ?_ _
      clear hB5 hnb hO6 hG6 hat6 hov6 hov6' hb6 c4 f4 hown6 hin6 hov5
      go_wp2
      go_meet
      exact ⟨_, Ws ++ [x'], (by rw [List.length_append]; have e1 : [x'].length = 1 := rfl; omega), hEnd, Lib.hid (by rw [List.map_append, List.map_singleton, hxd.out])⟩
  case rest =>
    obtain ⟨v5, Hs, hHl, hXT, hHm⟩ := hcut
    rename World => w5
    have hX5 := hXT.out.1
    obtain ⟨a5, cap5, rfl, _⟩ := OwnG.shape encWai_len hX5.ow
    have c5 : _ = some (Value.slice a5 Hs.length cap5) := hX5.blk.cell 1 rfl
    clear hmk hwB
    have hSS : ∀ i, S4 i → S i ∨ w.heap.size ≤ i := fun i hi => by
      rw [hS4h.out] at hi
      rcases hi.1 with h | h
      · exact h.1.imp id (fun h => by omega)
      · exact .inr (by omega)
    have hSSh := Lib.hid hSS
    have hT05 : Hid (OnlyT S w w5) := Lib.hid (OnlyT.trans hT04.out (hXT.out.2.mono (fun i e => ⟨⟨hSS i e.1, hX4.out.bd i e.1⟩, e.2⟩)))
    have hs5 := hXT.out.2.size
    clear hSS
    by_cases hn : 8 < Hs.length
    · have hd := deleteW 0 (Hs.length - 8) 0 _ Hs w5 hX5.ow (by omega) (by omega) (by omega)
      rw [List.take_zero, List.nil_append, show ((0 : Nat) : Int) = 0 from rfl, show (((Hs.length - 8 : Nat)) : Int) = (Hs.length : Int) - 8 by omega] at hd
      have hX5h := Lib.hid hX5
      clear hX5
      go_wp2_with fail
      refine hd.mono ?_
      rintro e w6 ⟨v6, rfl, hO6, ho6, hb6⟩
      obtain ⟨a6, cap6, e6, _⟩ := OwnG.shape encWai_len hO6
      rw [List.length_drop] at e6
      subst e6
      have hbx : Blk w6 b #[vg, .slice a5 Hs.length cap5] tBank := ho6.blk hX5h.out.blk (hX5h.out.ow.apart (by decide) hX5h.out.blk)
      have hO6h := Lib.hid hO6
      have ho6h := Lib.hid ho6
      have hb6h := Lib.hid hb6
      clear hd hO6 ho6 hb6 c5
      go_wp2_with (refine wpList_store_cell rfl _ _ _ (by rfl) b 1 (by rfl) hbx (by decide : 1 < 2) (.slice a6 (Hs.length - (Hs.length - 8)) cap6) (by rfl) (by rfl) (by rfl) infoWaitsF ?_; intro w7 hb7 hg7)
      have hb7' : Blk w7 b #[vg, .slice a6 (Hs.length - (Hs.length - 8)) cap6] tBank := hb7
      have hX7 := hX5h.out.turnW ho6h.out hO6h.out (own_same hb6h.out) (fun x hx => ((hX5h.out.inw x (List.mem_of_mem_drop hx)).own (by decide) hX5h.out.ow ho6h.out).mono (fun i hi => ⟨.inl hi, Nat.lt_of_lt_of_le (hX5h.out.bd i hi) ho6h.out.size⟩)) hb7' hg7
      have hX7h := Lib.hid hX7
      clear hX7 hb7 hg7 hbx hb7'
      have hs7 := hX7h.out.2.size
      have hmp : Hid ((Hs.drop (Hs.length - 8)).map Wai.d = bankAsked x.d ws) := Lib.hid (by
        rw [hpe.out, ← hmWh.out, ← hHm.out]
        unfold lastB
        rw [List.map_drop, List.length_map])
      go_end0
      refine ⟨rfl, ?_, ?_⟩
      · rw [← hmp.out, ← hmGh.out]
        refine put_finW hX7h.out.1 ?_ ?_ ?_
        · rintro i ⟨h1 | h1, _⟩
          · rcases h1.1 with h2 | h2
            · exact hSSh.out i h2
            · exact .inr (by omega)
          · exact .inr (by omega)
        · rw [hmGh.out]; exact hokG.out
        · intro y hy
          rw [List.map_drop] at hy
          have hx2 := List.mem_of_mem_drop hy
          rw [hHm.out, hmWh.out] at hx2
          rcases List.mem_append.1 hx2 with h | h
          · exact hokW.out y h
          · rw [List.mem_singleton.1 h]; exact hokH.out
      · exact OnlyT.trans hT05.out (hX7h.out.2.mono (fun i e => ⟨⟨by
          rcases e.1.1 with h2 | h2
          · exact hSSh.out i h2
          · exact .inr (by omega), e.1.2⟩, e.2⟩))
    · have hX5h := Lib.hid hX5
      have hmp : Hid (Hs.map Wai.d = bankAsked x.d ws) := Lib.hid (by
        rw [hpe.out, ← hmWh.out, ← hHm.out]
        unfold lastB
        rw [List.length_map, Nat.sub_eq_zero_of_le (by omega)]
        rfl)
      clear hX5
      go_wp2
      go_end0
      refine ⟨rfl, ?_, hT05.out⟩
      rw [← hmp.out, ← hmGh.out]
      refine put_finW hX5h.out ?_ ?_ ?_
      · rintro i ⟨h1 | h1, _⟩
        · exact hSSh.out i h1
        · exact .inr (by omega)
      · rw [hmGh.out]; exact hokG.out
      · intro y hy
        rw [hHm.out, hmWh.out] at hy
        rcases List.mem_append.1 hy with h | h
        · exact hokW.out y h
        · rw [List.mem_singleton.1 h]; exact hokH.out
end Go.Proofs.YtchgpdgigpaloaaDoor
