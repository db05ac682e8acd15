/- The program's bank: Take. -/
import Derived.Test.YtchgpdgigpaloaaDoorBankG
namespace Go.Proofs.YtchgpdgigpaloaaDoor
set_option linter.unusedSimpArgs false
open Go.RowKit Go.Deep
def TakePost (o : Org) (p : Bool) (b : Nat) (S : Nat → Prop) (gs : List GraD) (ws : List WaiD) (w : World) (e : Ending) (w' : World) : Prop :=
  ∃ x : Wai, x.d = (bankGot o p ws).getD waiZero ∧ e = .returned (.tuple #[.agg x.arr, .bool (bankGot o p ws).isSome]) ∧ TxtAt w' x.ask.addr x.ask.d.domain ∧ BankR w' b (grow S w w') gs (bankTake o p ws) ∧ OnlyT S w w'
theorem wai_cells {w : World} {q : Nat} {x : Wai} (h : Blk w q x.arr tWai) : w.cell? ⟨q, 0, none⟩ = some (.bool x.orig.sec) ∧ w.cell? ⟨q, 1, none⟩ = some (.string x.orig.host) ∧ w.cell? ⟨q, 2, none⟩ = some (.int .i64 x.orig.port) ∧ w.cell? ⟨q, 3, none⟩ = some (.bool x.proxy) :=
  ⟨h.cell 0 rfl, h.cell 1 rfl, h.cell 2 rfl, h.cell 3 rfl⟩
theorem keyW_no {o : Org} {p : Bool} {x : WaiD} (h : keyW o p x = false) : orgE x.orig o = false ∨ orgE x.orig o = true ∧ (x.proxy == p) = false := by
  unfold keyW at h
  cases e : orgE x.orig o
  · exact .inl rfl
  · rw [e] at h; exact .inr ⟨rfl, by simpa using h⟩
theorem keyW_yes {o : Org} {p : Bool} {x : WaiD} (h : keyW o p x = true) : orgE x.orig o = true ∧ (x.proxy == p) = true := by
  unfold keyW at h
  simpa using h
theorem take_map (Ws : List Wai) (k : Nat) : (Ws.take k ++ Ws.drop (k + 1)).map Wai.d = (Ws.map Wai.d).take k ++ (Ws.map Wai.d).drop (k + 1) := by
  rw [List.map_append, List.map_take, List.map_drop]
theorem anyW {o : Org} {p : Bool} (Ws : List Wai) (k : Nat) : ((Ws.map Wai.d).take k).any (keyW o p) = (Ws.take k).any (fun x => keyW o p x.d) := by
  rw [← List.map_take, List.any_map]; rfl
set_option maxRecDepth 100000 in
set_option maxHeartbeats 4000000 in
theorem bankTakeP (b : Nat) (S : Nat → Prop) (gs : List GraD) (ws : List WaiD) (o : Org) (p : Bool) (w : World) (hB : BankR w b S gs ws) (hl : gs.length ≤ 100000) (hl2 : ws.length ≤ 100000) (h1w : OneW ws) :
    Calls Tryd.prog 14 #[.pointer (some ⟨b, 0, none⟩), .agg (orgArr o), .bool p] w (TakePost o p b S gs ws w) := by
  have hokG := Lib.hid hB.okG
  have hokW := Lib.hid hB.okW
  obtain ⟨vg, vw, Gs, Ws, hX, rfl, rfl⟩ := hB.x
  rw [List.length_map] at hl hl2
  clear hB
  obtain ⟨ag, capg, rfl, _⟩ := OwnG.shape encGra_len hX.og
  obtain ⟨a1, cap1, rfl, hrow, _⟩ := OwnG.shape encWai_len hX.ow
  have hal := ((Below.refl w.heap.size w).alloc (Nat.le_refl _) (.cells (orgArr o) 32)).alloc (by simp) (.cells zWai tWai)
  have hq0 := Lib.hid ((Blk.new w (orgArr o) 32).alloc (.cells zWai tWai))
  have hz0 := Lib.hid (show Blk ((w.alloc (.cells (orgArr o) 32)).alloc (.cells zWai tWai)) (w.heap.size + 1) zWai tWai by have := Blk.new (w.alloc (.cells (orgArr o) 32)) zWai tWai; rwa [World.size_alloc] at this)
  have c0 : _ = some (Value.slice a1 Ws.length cap1) := (hX.blk.later hal).cell 1 rfl
  have hB0 := Lib.hid hal
  have hrH := Lib.hid hrow
  have hXH := Lib.hid hX
  have h1H := Lib.hid h1w
  clear hal hrow hX h1w
  go_enter Tryd.func14, Tryd.ntmps14
  go_wp2
  go_loopw [8, 9, 15] (fun _ _ vi wr => ∃ k : Nat, k ≤ Ws.length ∧ vi = .int .i64 k ∧ Hid ((Ws.take k).any (fun x => keyW o p x.d) = false) ∧ Hid (Below w.heap.size w wr) ∧ Hid (Blk wr w.heap.size (orgArr o) 32) ∧ Hid (Blk wr (w.heap.size + 1) zWai tWai)) (fun _ _ vi _ => Ws.length - (intOf vi).toNat)
  case atStart => exact ⟨0, Nat.zero_le _, rfl, Lib.hid rfl, hB0, hq0, hz0⟩
  case round =>
    obtain ⟨k, hk, rfl, hN, hB, hq, hzz⟩ := hrel
    by_cases hlt : k < Ws.length
    · obtain ⟨pb, po, rfl, hc⟩ := (hrH.out.later hB.out) k hlt
      have hrg : wr.rangeAt pb (po + k * 13) (encWai Ws[k]) := hc
      have hno := Lib.hid (fun e => any_take_noR (f := fun x : Wai => keyW o p x.d) hlt hN.out e)
      have hkd : k < (Ws.map Wai.d).length := by rw [List.length_map]; exact hlt
      have hye := Lib.hid (fun (e : keyW o p Ws[k].d = true) => take_one h1H.out hkd (o := o) (p := p) (by rw [List.getElem_map]; exact e) (by rw [anyW]; exact hN.out))
      have hinx := Lib.hid (hXH.out.inw _ (List.getElem_mem hlt))
      have hgk := Lib.hid (show (Ws.map Wai.d)[k] = Ws[k].d from List.getElem_map _)
      have hZ := Blk.new wr zWai tWai
      have hbs := hB.out.size
      have hgp := hzz.out.lt
      clear hc
      generalize hxx : Ws[k] = x at hrg hno hye hinx hgk
      clear hxx
      have h1 := fun w => org_eql x.orig o w
      go_upto_region 4 with (first
        | (refine wpList_load_mid rfl tWai _ rfl pb (po + k * 13) rfl (encWai x) _ hrg undWai rfl infoWai ?_)
        | (refine wpList_store_blk rfl tWai _ _ rfl _ rfl hZ x.arr rfl rfl infoWai (wai_one x) ?_; intro wa hpas hga))
      have hBa := Lib.hid (below_only (hB.out.alloc hbs (.cells zWai tWai)) hga (by simp; omega) hbs)
      have hqa := (hq.out.alloc (.cells zWai tWai)).grown hga (fun e => by have := Option.some.inj e; omega)
      have hza := Lib.hid ((hzz.out.alloc (.cells zWai tWai)).grown hga (fun e => by have := Option.some.inj e; omega))
      have hqaH := Lib.hid hqa
      have hpH := Lib.hid hpas
      obtain ⟨d0, d1, d2, d3⟩ := wai_cells hpas
      clear hrg hZ hga hB hq hzz
      cases hq1 : keyW o p x.d
      · have hn' := Lib.hid (hno.out hq1)
        rcases keyW_no hq1 with hr1 | ⟨hr1, hr2⟩
        all_goals
          clear hq1 hno hye
          simp only [hr1] at h1
          try (have hr3 : (x.proxy == p) = false := hr2)
          go_wp2_with (first
            | (refine wpList_load_blk rfl 32 _ rfl _ rfl hqa _ Tryd.underlying32 rfl infoOrgB ?_)
            | ((with_reducible show wpList _ _ _ ({ dst := _, op := Op.binOp _ _ _ _ _, type := _, pos := _, after := _, guard := _ } :: _) _ _); refine wpList_eql_agg _ rfl .eql 32 32 _ _ rfl #[.bool x.orig.sec, .string x.orig.host, .int .i64 x.orig.port] #[.bool o.sec, .string o.host, .int .i64 o.port] (by rfl) (by rfl) noGuardOrg _ (h1 _) ?_))
          go_roundw
          case rel => exact ⟨k + 1, by omega, by go_num, hn', hBa, hqaH, hza⟩
          case measure => simp [intOf]; omega
      · obtain ⟨ht, hg⟩ := hye.out hq1
        obtain ⟨hr1, hr2⟩ := keyW_yes hq1
        have htH := Lib.hid ht
        have hgH := Lib.hid hg
        clear hq1 hno hye ht hg
        simp only [hr1] at h1
        have hr3 : (x.proxy == p) = true := hr2
        have hXa := Lib.hid (hXH.out.later hBa.out)
        have c1 : _ = some (Value.slice (some ⟨pb, po, none⟩) Ws.length cap1) := hXa.out.blk.cell 1 rfl
        have hd := deleteW k (k + 1) 0 _ Ws wa hXa.out.ow (by omega) (by omega) (by omega)
        rw [show ((k + 1 : Nat) : Int) = (k : Int) + 1 by omega] at hd
        have hsub : Hid (∀ wx, Only (fun i => (Value.slice (some ⟨pb, po, none⟩) Ws.length cap1).ownBlock = some i) wa wx → ∀ g ∈ Ws.take k ++ Ws.drop (k + 1), g.In wx (grow S wa wx)) := Lib.hid (fun wx ho g hg => by
          have hm : g ∈ Ws := by
            rcases List.mem_append.1 hg with e | e
            · exact List.mem_of_mem_take e
            · exact List.mem_of_mem_drop e
          exact ((hXa.out.inw g hm).own (by decide) hXa.out.ow ho).mono (fun i hi => ⟨.inl hi, Nat.lt_of_lt_of_le (hXa.out.bd i hi) ho.size⟩))
        have hmp := Lib.hid (show (Ws.take k ++ Ws.drop (k + 1)).map Wai.d = bankTake o p (Ws.map Wai.d) by rw [take_map, htH.out])
        have hokw2 : Hid (∀ g ∈ (Ws.take k ++ Ws.drop (k + 1)).map Wai.d, g.Ok) := Lib.hid (by
          rw [hmp.out]
          intro g hg
          exact hokW.out g (List.mem_filter.1 hg).1)
        have hld : (Ws.take k ++ Ws.drop (k + 1)).length ≤ 100000 := by rw [List.length_append, List.length_take, List.length_drop]; omega
        generalize Ws.take k ++ Ws.drop (k + 1) = Ws' at hd hsub hmp hokw2 hld
        go_wp2_with (first
          | (refine wpList_load_blk rfl 32 _ rfl _ rfl hqa _ Tryd.underlying32 rfl infoOrgB ?_)
          | ((with_reducible show wpList _ _ _ ({ dst := _, op := Op.binOp _ _ _ _ _, type := _, pos := _, after := _, guard := _ } :: _) _ _); refine wpList_eql_agg _ rfl .eql 32 32 _ _ rfl #[.bool x.orig.sec, .string x.orig.host, .int .i64 x.orig.port] #[.bool o.sec, .string o.host, .int .i64 o.port] (by rfl) (by rfl) noGuardOrg _ (h1 _) ?_))
        refine hd.mono ?_
        rintro e w2 ⟨v2, rfl, hO2, ho2, hb2⟩
        obtain ⟨a2, cap2, rfl, hsh2⟩ := OwnG.shape encWai_len hO2
        have hbx : Blk w2 b #[.slice ag Gs.length capg, .slice (some ⟨pb, po, none⟩) Ws.length cap1] tBank := ho2.blk hXa.out.blk (hXa.out.ow.apart (by decide) hXa.out.blk)
        have hO2h := Lib.hid hO2
        have ho2h := Lib.hid ho2
        have hb2h := Lib.hid hb2
        clear hd c1 hO2 ho2 hb2 hsh2 d0 d1 d2 d3 hqa hpas
        go_upto_region 6 with (refine wpList_store_cell rfl _ _ _ (by rfl) b 1 (by rfl) hbx (by decide : 1 < 2) (.slice a2 Ws'.length cap2) (by rfl) (by rfl) (by rfl) infoWaitsF ?_; intro w3 hb3 hg3)
        have hb3' : Blk w3 b #[.slice ag Gs.length capg, .slice a2 Ws'.length cap2] tBank := hb3
        have hX3 := Lib.hid (hXa.out.turnW ho2h.out hO2h.out (own_same hb2h.out) (hsub.out w2 ho2h.out) hb3' hg3)
        have hbl := hXH.out.blk.lt
        have hvw := hXH.out.ow.lt
        have hp3 : Blk w3 wr.heap.size x.arr tWai := (ho2h.out.blk hpH.out (fun e => by have := (hvw _ e).2; omega)).grown hg3 (fun e => by have := Option.some.inj e; omega)
        have hz3 : Blk w3 (w.heap.size + 1) zWai tWai := (ho2h.out.blk hza.out (fun e => by have := (hvw _ e).2; omega)).grown hg3 (fun e => by have := Option.some.inj e; omega)
        have hz3h := Lib.hid hz3
        clear hb3 hg3 hbx hsub hb3' hvw
        go_wp2_with (first
          | (refine wpList_load_blk rfl tWai _ rfl _ rfl hp3 _ undWai rfl infoWai ?_)
          | (refine wpList_store_blk rfl tWai _ _ rfl _ rfl hz3 x.arr rfl rfl infoWai (wai_one x) ?_; intro w4 hb4 hg4))
        have ho4 : Only (fun i => i = w.heap.size + 1) w3 w4 := Only.of_grown hg4 (fun i e => (Option.some.inj e).symm)
        have hnt := noTxt_blk hz3h.out (by decide)
        have hs1 := hBa.out.size
        have hs2 := hX3.out.2.size
        have hs4 := ho4.size
        refine bodyPost_ret (v := .tuple #[.agg x.arr, .bool true]) ?_ rfl ?_
        · exact results_cell2 6 tWai 7 (w.heap.size + 1) Tryd.results14 rfl rfl (loadG_blk hb4 undWai rfl infoWai)
        · have hg2 := hgH.out
          rw [hgk.out] at hg2
          unfold TakePost
          rw [hg2]
          refine ⟨x, rfl, rfl, ?_, ?_, ?_⟩
          · exact ((hinx.out.dom.later hBa.out).stays hX3.out.2).kept ho4 (fun hn y hy e => by
              obtain ⟨cur, fz, hc⟩ := (((hinx.out.dom.later hBa.out).stays hX3.out.2)).2 hn y hy
              rw [e] at hc
              exact hnt cur fz hc)
          · have hr := hX3.out.1.r hokG.out (by rw [hmp.out]; exact fun g hg => hokw2.out g (by rw [hmp.out]; exact hg))
            rw [hmp.out] at hr
            refine (hr.kept ho4 (fun i hi e => ?_)).mono ?_ (fun i hi => hi.2)
            · have hpl := hpH.out.lt
              rcases hi.1 with h2 | h2
              · have := hXH.out.bd i h2; omega
              · omega
            · rintro i ⟨h2 | h2, h3⟩
              · exact ⟨.inl h2, by omega⟩
              · exact ⟨.inr (by omega), by omega⟩
          · refine OnlyT.trans (OnlyT.trans (OnlyT.of_below hBa.out) (hX3.out.2.mono ?_)) (ho4.mono ?_)
            · rintro i ⟨h2, h3⟩
              exact ⟨⟨.inl h2, by have := hXH.out.bd i h2; omega⟩, h3⟩
            · rintro i rfl
              exact ⟨⟨.inr (by omega), by have := hz3h.out.lt; omega⟩, hnt⟩
    · obtain rfl : Ws.length = k := by omega
      have hnn := Lib.hid (take_none (o := o) (p := p) (ws := Ws.map Wai.d) (by rw [List.any_map]; have := hN.out; rw [List.take_length] at this; exact this))
      have hzo := hzz.out
      have hz3h := Lib.hid hzz.out
      go_wp2_with (refine wpList_store_blk rfl tWai _ _ rfl _ rfl hzo zWai rfl rfl infoWai (by simp [Value.oneCell']) ?_; intro w6 hb6 hg6)
      have ho4 : Only (fun i => i = w.heap.size + 1) wr w6 := Only.of_grown hg6 (fun i e => (Option.some.inj e).symm)
      have hnt := noTxt_blk hz3h.out (by decide)
      have hs1 := hB.out.size
      have hs4 := ho4.size
      refine bodyPost_ret (v := .tuple #[.agg zWai, .bool false]) ?_ rfl ?_
      · exact results_cell2 6 tWai 7 (w.heap.size + 1) Tryd.results14 rfl rfl (loadG_blk hb6 undWai rfl infoWai)
      · unfold TakePost
        rw [hnn.out.1, hnn.out.2]
        refine ⟨⟨⟨false, ⟨#[]⟩, 0⟩, false, ⟨#[]⟩, ⟨askZero, none, 0⟩⟩, rfl, rfl, TxtAt.nil _ _, ?_, ?_⟩
        · have hr := (hXH.out.later hB.out).r hokG.out hokW.out
          refine (hr.kept ho4 (fun i hi e => by have := hXH.out.bd i hi; omega)).mono (fun i hi => ⟨.inl hi, by have := hXH.out.bd i hi; omega⟩) (fun i hi => hi.2)
        · refine OnlyT.trans (OnlyT.of_below hB.out) (ho4.mono ?_)
          rintro i rfl
          exact ⟨⟨.inr (by omega), by have := hz3h.out.lt; omega⟩, hnt⟩
end Go.Proofs.YtchgpdgigpaloaaDoor
