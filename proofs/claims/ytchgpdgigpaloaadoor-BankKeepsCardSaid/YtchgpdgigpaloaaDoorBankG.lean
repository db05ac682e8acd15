/- The program's bank: Sweep. -/
import Derived.Test.YtchgpdgigpaloaaDoorBankF
namespace Go.Proofs.YtchgpdgigpaloaaDoor
set_option linter.unusedSimpArgs false
open Go.RowKit Go.Deep
set_option maxRecDepth 100000 in
set_option maxHeartbeats 2000000 in
theorem bankSweep1 (x : Gra) (o : Org) (q : Nat) (w : World) (h0 : Blk w q (orgArr o) 32) :
    Calls Tryd.prog 45 #[.agg x.arr, .pointer (some ⟨q, 0, none⟩)] w fun e w' => e = .returned (.bool (orgE x.orig o)) ∧ Below w.heap.size w w' := by
  have hal := (Below.refl w.heap.size w).alloc (Nat.le_refl _) (.cells x.arr tGra)
  have hq0 := h0.later hal
  have h1 := fun w => org_eql x.orig o w
  have hH := Lib.hid hal
  generalize orgE x.orig o = res at h1 ⊢
  clear hal h0
  go_enter Tryd.func45, Tryd.ntmps45
  go_wp2_with (first
    | (refine wpList_load_blk rfl 32 _ rfl _ rfl hq0 _ Tryd.underlying32 rfl infoOrgB ?_)
    | ((with_reducible show wpList _ _ _ ({ dst := _, op := Op.binOp _ _ _ _ _, type := _, pos := _, after := _, guard := _ } :: _) _ _); refine wpList_eql_agg _ rfl .eql 32 32 _ _ rfl #[.bool x.orig.sec, .string x.orig.host, .int .i64 x.orig.port] #[.bool o.sec, .string o.host, .int .i64 o.port] (by rfl) (by rfl) noGuardOrg _ (h1 _) ?_))
  go_ret
  exact ⟨rfl, hH.out⟩
set_option maxRecDepth 100000 in
set_option maxHeartbeats 2000000 in
theorem bankSweep2 (x : Wai) (o : Org) (q : Nat) (w : World) (h0 : Blk w q (orgArr o) 32) :
    Calls Tryd.prog 47 #[.agg x.arr, .pointer (some ⟨q, 0, none⟩)] w fun e w' => e = .returned (.bool (orgE x.orig o)) ∧ Below w.heap.size w w' := by
  have hal := (Below.refl w.heap.size w).alloc (Nat.le_refl _) (.cells x.arr tWai)
  have hq0 := h0.later hal
  have h1 := fun w => org_eql x.orig o w
  have hH := Lib.hid hal
  generalize orgE x.orig o = res at h1 ⊢
  clear hal h0
  go_enter Tryd.func47, Tryd.ntmps47
  go_wp2_with (first
    | (refine wpList_load_blk rfl 32 _ rfl _ rfl hq0 _ Tryd.underlying32 rfl infoOrgB ?_)
    | ((with_reducible show wpList _ _ _ ({ dst := _, op := Op.binOp _ _ _ _ _, type := _, pos := _, after := _, guard := _ } :: _) _ _); refine wpList_eql_agg _ rfl .eql 32 32 _ _ rfl #[.bool x.orig.sec, .string x.orig.host, .int .i64 x.orig.port] #[.bool o.sec, .string o.host, .int .i64 o.port] (by rfl) (by rfl) noGuardOrg _ (h1 _) ?_))
  go_ret
  exact ⟨rfl, hH.out⟩
def SweepPost (o : Org) (b : Nat) (S : Nat → Prop) (gs : List GraD) (ws : List WaiD) (w : World) (e : Ending) (w' : World) : Prop :=
  e = .returned (.int .i64 ((gs.length : Int) - ((bankSweepG o gs).length : Int))) ∧ BankR w' b (grow S w w') (bankSweepG o gs) (bankSweepW o ws) ∧ OnlyT S w w'
set_option maxRecDepth 100000 in
set_option maxHeartbeats 4000000 in
theorem bankSweepP (b : Nat) (S : Nat → Prop) (gs : List GraD) (ws : List WaiD) (o : Org) (w : World) (hB : BankR w b S gs ws) (hl : gs.length ≤ 100000) (hl2 : ws.length ≤ 100000) :
    Calls Tryd.prog 18 #[.pointer (some ⟨b, 0, none⟩), .agg (orgArr o)] w (SweepPost o b S gs ws w) := by
  have hokG := hB.okG
  have hokW := hB.okW
  obtain ⟨vg, vw, Gs, Ws, hX, rfl, rfl⟩ := hB.x
  rw [List.length_map] at hl hl2
  clear hB
  have hal := (Below.refl w.heap.size w).alloc (Nat.le_refl _) (.cells (orgArr o) 32)
  have hq0 := Blk.new w (orgArr o) 32
  have hrX : Hid ((Gs.filter (fun x => !orgE x.orig o)).map Gra.d = bankSweepG o (Gs.map Gra.d)) := Lib.hid (map_keep (f := fun g => orgE g.orig o) Gs)
  have hrW : Hid ((Ws.filter (fun x => !orgE x.orig o)).map Wai.d = bankSweepW o (Ws.map Wai.d)) := Lib.hid (map_keepW (f := fun g => orgE g.orig o) Ws)
  have hlen : Hid ((bankSweepG o (Gs.map Gra.d)).length = (Gs.filter (fun x => !orgE x.orig o)).length) := Lib.hid (by rw [← hrX.out, List.length_map])
  have hlf : (Gs.filter (fun x => !orgE x.orig o)).length ≤ Gs.length := List.length_filter_le _ _
  have hokg2 : Hid (∀ g ∈ (Gs.filter (fun x => !orgE x.orig o)).map Gra.d, g.Ok) := Lib.hid (by
    rw [hrX.out]
    intro g hg
    exact hokG g (List.mem_filter.1 hg).1)
  have hokw2 : Hid (∀ g ∈ (Ws.filter (fun x => !orgE x.orig o)).map Wai.d, g.Ok) := Lib.hid (by
    rw [hrW.out]
    intro g hg
    exact hokW g (List.mem_filter.1 hg).1)
  go_enter Tryd.func18, Tryd.ntmps18
  go_upto_region 1 with (fail)
  generalize w.alloc (.cells (orgArr o) 32) = w1 at hal hq0 ⊢
  have hX1 := Lib.hid (hX.later hal)
  have hB1 := Lib.hid hal
  obtain ⟨a1, cap1, rfl, _⟩ := OwnG.shape encGra_len hX.og
  obtain ⟨aw, capw, rfl, _⟩ := OwnG.shape encWai_len hX.ow
  have c0 : _ = some (Value.slice a1 Gs.length cap1) := hX1.out.blk.cell 0 rfl
  have hdel := deleteFuncG 45 #[.pointer (some ⟨w.heap.size, 0, none⟩)] (fun x => orgE x.orig o) 0 _ Gs w1 hX1.out.og (by omega) (fun _ _ => rfl) (fun W x ho _ =>
    bankSweep1 x o _ W (ho.blk hq0 (hX1.out.og.apart (by decide) hq0)))
  have hq1 := Lib.hid hq0
  generalize hGs' : Gs.filter (fun x => !orgE x.orig o) = Gs' at hdel hrX hlen hlf hokg2
  have hsub : Hid (∀ wx, Only (fun i => (Value.slice a1 Gs.length cap1).ownBlock = some i) w1 wx → ∀ g ∈ Gs', g.In wx (grow S w1 wx)) := Lib.hid (by
    subst hGs'
    exact fun wx ho => in_left hX1.out.og hX1.out.ing hX1.out.bd ho)
  clear hq0 hX hal hGs' hokG hokW
  go_wp2_with fail
  refine hdel.mono ?_
  rintro e w2 ⟨v2, rfl, hO2, ho2, hb2⟩
  obtain ⟨a2, cap2, rfl, hsh2⟩ := OwnG.shape encGra_len hO2
  have hbx : Blk w2 b #[.slice a1 Gs.length cap1, .slice aw Ws.length capw] tBank := ho2.blk hX1.out.blk (hX1.out.og.apart (by decide) hX1.out.blk)
  have hO2h := Lib.hid hO2
  have ho2h := Lib.hid ho2
  have hb2h := Lib.hid hb2
  clear hdel c0 hO2 ho2 hb2 hsh2
  go_upto_region 3 with (refine wpList_store_cell rfl _ _ _ (by rfl) b 0 (by rfl) hbx (by decide : 0 < 2) (.slice a2 Gs'.length cap2) (by rfl) (by rfl) (by rfl) infoGrantsF ?_; intro w3 hb3 hg3)
  have hb3' : Blk w3 b #[.slice a2 Gs'.length cap2, .slice aw Ws.length capw] tBank := hb3
  have hX3 := Lib.hid (hX1.out.turnG ho2h.out hO2h.out (own_same hb2h.out) (hsub.out w2 ho2h.out) hb3' hg3)
  have hq3 : Blk w3 w.heap.size (orgArr o) 32 := (ho2h.out.blk hq1.out (hX1.out.og.apart (by decide) hq1.out)).grown hg3 (fun e => by
    have h1 : b = w.heap.size := Option.some.inj e
    have h2 := hX1.out.blk
    rw [h1] at h2
    have := hq1.out.same h2
    simp at this)
  have c1 : _ = some (Value.slice aw Ws.length capw) := hb3'.cell 1 rfl
  have hdel2 := deleteFuncW 47 #[.pointer (some ⟨w.heap.size, 0, none⟩)] (fun x => orgE x.orig o) 0 _ Ws w3 hX3.out.1.ow (by omega) (fun _ _ => rfl) (fun W x ho _ =>
    bankSweep2 x o _ W (ho.blk hq3 (hX3.out.1.ow.apart (by decide) hq3)))
  generalize hWs' : Ws.filter (fun x => !orgE x.orig o) = Ws' at hdel2 hrW hokw2
  have hsub2 : Hid (∀ wx, Only (fun i => (Value.slice aw Ws.length capw).ownBlock = some i) w3 wx → ∀ g ∈ Ws', g.In wx (grow (grow S w1 w3) w3 wx)) := Lib.hid (by
    subst hWs'
    exact fun wx ho => in_leftW hX3.out.1.ow hX3.out.1.inw hX3.out.1.bd ho)
  clear hb3 hg3 hbx hq3 hq1 hWs' hsub
  go_wp2_with fail
  refine hdel2.mono ?_
  rintro e w4 ⟨v4, rfl, hO4, ho4, hb4⟩
  obtain ⟨a4, cap4, rfl, hsh4⟩ := OwnG.shape encWai_len hO4
  have hby : Blk w4 b #[.slice a2 Gs'.length cap2, .slice aw Ws.length capw] tBank := ho4.blk hb3' (hX3.out.1.ow.apart (by decide) hb3')
  have hO4h := Lib.hid hO4
  have ho4h := Lib.hid ho4
  have hb4h := Lib.hid hb4
  clear hdel2 c1 hO4 ho4 hb4 hsh4 hb3'
  go_upto_region 4 with (refine wpList_store_cell rfl _ _ _ (by rfl) b 1 (by rfl) hby (by decide : 1 < 2) (.slice a4 Ws'.length cap4) (by rfl) (by rfl) (by rfl) infoWaitsF ?_; intro w5 hb5 hg5)
  have hb5' : Blk w5 b #[.slice a2 Gs'.length cap2, .slice a4 Ws'.length cap4] tBank := hb5
  have hX5 := Lib.hid (hX3.out.1.turnW ho4h.out hO4h.out (own_same hb4h.out) (hsub2.out w4 ho4h.out) hb5' hg5)
  have c2 : _ = some (Value.slice a2 Gs'.length cap2) := hb5'.cell 0 rfl
  have hs1 := hB1.out.size
  have hs3 := hX3.out.2.size
  have hs5 := hX5.out.2.size
  clear hb5 hg5 hby hsub2
  go_wp2
  go_ret
  refine ⟨?_, ?_, ?_⟩
  · rw [hlen.out, List.length_map]
    rfl
  · rw [← hrX.out, ← hrW.out]
    refine (hX5.out.1.mono (S' := grow S w w5) ?_ (fun i hi => hi.2)).r hokg2.out hokw2.out
    rintro i ⟨⟨h1 | h1, h3⟩ | h1, h2⟩
    · exact ⟨.inl h1, h2⟩
    · exact ⟨.inr (by omega), h2⟩
    · exact ⟨.inr (by omega), h2⟩
  · refine OnlyT.trans (OnlyT.of_below hB1.out) ((OnlyT.trans hX3.out.2 hX5.out.2).mono ?_)
    rintro i ⟨h1, h2⟩
    exact ⟨⟨.inl h1, by have := hX1.out.bd i h1; omega⟩, h2⟩
end Go.Proofs.YtchgpdgigpaloaaDoor
