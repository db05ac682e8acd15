/- The program's bank: Grants, Waits, Copy. -/
import Derived.Test.YtchgpdgigpaloaaDoorBankC
namespace Go.Proofs.YtchgpdgigpaloaaDoor
set_option linter.unusedSimpArgs false
open Go.RowKit Go.Deep
section
variable {α : Type} {T : TypeId} {n : Nat} {enc : α → List Value}
/-- a row of structs is no row of texts -/
theorem txt_apart (hT : T ≠ 9) {w : World} {B : Nat} {v : Value} {l : List α} (h : OwnG T n enc w B v l) {i : Nat} {cur : Array Value} {fz : Nat × Nat} (hb : w.heap[i]? = some (.cells cur 9 fz)) : v.ownBlock ≠ some i := by
  obtain ⟨_, h2⟩ := h
  rcases h2 with ⟨rfl, _⟩ | ⟨g, cap, cur', rfl, _, hg, _⟩
  · intro e; cases e
  · intro e
    have e' : g = i := Option.some.inj e
    subst e'
    rw [hb] at hg
    have := Option.some.inj hg
    injection this with _ h3 _
    exact hT h3.symm
theorem Gra.In.own {w w' : World} {S : Nat → Prop} {g : Gra} (h : g.In w S) (hT : T ≠ 9) {B : Nat} {v : Value} {l : List α} (hO : OwnG T n enc w B v l) (ho : Only (fun i => v.ownBlock = some i) w w') : g.In w' S :=
  ⟨h.dom.kept ho (fun hn x hx e => by obtain ⟨cur, fz, hb⟩ := h.dom.2 hn x hx; exact txt_apart hT hO hb e), h.pth.kept ho (fun hn x hx e => by obtain ⟨cur, fz, hb⟩ := h.pth.2 hn x hx; exact txt_apart hT hO hb e), h.domS, h.pthS⟩
theorem Wai.In.own {w w' : World} {S : Nat → Prop} {g : Wai} (h : g.In w S) (hT : T ≠ 9) {B : Nat} {v : Value} {l : List α} (hO : OwnG T n enc w B v l) (ho : Only (fun i => v.ownBlock = some i) w w') : g.In w' S :=
  ⟨h.dom.kept ho (fun hn x hx e => by obtain ⟨cur, fz, hb⟩ := h.dom.2 hn x hx; exact txt_apart hT hO hb e), h.domS⟩
end
theorem Wai.In.box {w w' : World} {S : Nat → Prop} {g : Wai} (h : g.In w S) {p : Nat} {cs : Array Value} {T : TypeId} (hb : Blk w p cs T) (hT : T ≠ 9) (ho : Only (fun i => i = p) w w') : g.In w' S :=
  ⟨h.dom.kept ho (fun hn x hx e => by obtain ⟨cur, fz, hc⟩ := h.dom.2 hn x hx; rw [e] at hc; unfold Blk at hb; rw [hb] at hc; have := Option.some.inj hc; injection this with _ h3 _; exact hT h3), h.domS⟩
theorem Gra.In.mono {w : World} {S S' : Nat → Prop} {g : Gra} (h : g.In w S) (hs : ∀ i, S i → S' i) : g.In w S' := ⟨h.dom, h.pth, fun hn x hx => hs _ (h.domS hn x hx), fun hn x hx => hs _ (h.pthS hn x hx)⟩
theorem Wai.In.mono {w : World} {S S' : Nat → Prop} {g : Wai} (h : g.In w S) (hs : ∀ i, S i → S' i) : g.In w S' := ⟨h.dom, fun hn x hx => hs _ (h.domS hn x hx)⟩
theorem Gra.In.later {w w' : World} {S : Nat → Prop} {g : Gra} (h : g.In w S) (hb : Below w.heap.size w w') : g.In w' S := ⟨h.dom.later hb, h.pth.later hb, h.domS, h.pthS⟩
theorem Wai.In.later {w w' : World} {S : Nat → Prop} {g : Wai} (h : g.In w S) (hb : Below w.heap.size w w') : g.In w' S := ⟨h.dom.later hb, h.domS⟩
/-- blocks made since -/
abbrev since (w w' : World) (i : Nat) : Prop := w.heap.size ≤ i ∧ i < w'.heap.size
theorem since_later {w w1 w2 : World} (h : w1.heap.size ≤ w2.heap.size) : ∀ i, since w w1 i → since w w2 i := fun _ e => ⟨e.1, Nat.lt_of_lt_of_le e.2 h⟩
def GrantsPost (gs : List GraD) (w : World) (e : Ending) (w' : World) : Prop :=
  ∃ (v : Value) (Gs : List Gra), e = .returned v ∧ OwnG tGra 16 encGra w' w.heap.size v Gs ∧ Gs.map Gra.d = gs ∧ (∀ g ∈ Gs, g.In w' (since w w')) ∧ Below w.heap.size w w'
def WaitsPost (ws : List WaiD) (w : World) (e : Ending) (w' : World) : Prop :=
  ∃ (v : Value) (Ws : List Wai), e = .returned v ∧ OwnG tWai 13 encWai w' w.heap.size v Ws ∧ Ws.map Wai.d = ws ∧ (∀ g ∈ Ws, g.In w' (since w w')) ∧ Below w.heap.size w w'
theorem wholeGD : (Tryd.prog.info? tGra).map (fun i => (i.zero, i.size, i.bytes)) = some (some (.agg zGra), 16, 216) := by kernel_rfl
theorem wholeWD : (Tryd.prog.info? tWai).map (fun i => (i.zero, i.size, i.bytes)) = some (some (.agg zWai), 13, 168) := by kernel_rfl
set_option maxRecDepth 100000 in
set_option maxHeartbeats 4000000 in
theorem bankGrants (b : Nat) (S : Nat → Prop) (gs : List GraD) (ws : List WaiD) (w : World) (hB : BankR w b S gs ws) (hl : gs.length ≤ 100000) :
    Calls Tryd.prog 24 #[.pointer (some ⟨b, 0, none⟩)] w (GrantsPost gs w) := by
  have hok := hB.okG
  obtain ⟨vg, vw, Gs, Ws, hv, hO, _, _, _, rfl, _, hIn, _⟩ := hB.box
  rw [List.length_map] at hl
  obtain ⟨a1, cap1, rfl, hrow, _⟩ := OwnG.shape encGra_len hO
  have c0 : _ = some (Value.slice a1 Gs.length cap1) := hv.cell 0 rfl
  have hrH := Lib.hid hrow
  have hIH := Lib.hid hIn
  have hokH := Lib.hid hok
  clear hB hO hv hrow hIn hok
  go_enter Tryd.func24, Tryd.ntmps24
  go_wp2
  go_loopw [3, 5, 11] (fun vl _ vi wr => ∃ (k : Nat) (Hs : List Gra), k ≤ Gs.length ∧ vi = .int .i64 k ∧ Hs.length = k ∧ Hid (Hs.map Gra.d = (Gs.take k).map Gra.d) ∧ Hid (OwnG tGra 16 encGra wr w.heap.size vl Hs) ∧ Hid (∀ g ∈ Hs, g.In wr (since w wr)) ∧ Hid (Below w.heap.size w wr)) (fun _ _ vi _ => Gs.length - (intOf vi).toNat)
  case atStart => exact ⟨0, [], Nat.zero_le _, rfl, rfl, Lib.hid rfl, Lib.hid (OwnG.nil _ _), Lib.hid (fun g hg => by cases hg), Lib.hid (Below.refl _ _)⟩
  case round =>
    obtain ⟨k, Hs, hk, rfl, hHl, hMap, hO, hIn, hB⟩ := hrel
    obtain ⟨a5, cap5, rfl, hs5⟩ := OwnG.shape encGra_len hO.out
    clear hs5
    have hHk := Lib.hid hHl
    have hHle : Hs.length ≤ 100000 := by omega
    clear hHl
    by_cases hlt : k < Gs.length
    · obtain ⟨pb, po, rfl, hc⟩ := (hrH.out.later hB.out) k hlt
      have hrg : wr.rangeAt pb (po + k * 16) (encGra Gs[k]) := hc
      have hmem := List.getElem_mem hlt
      have hok1 := hokH.out _ (List.mem_map_of_mem hmem)
      have hin1 := hIH.out _ hmem
      have hco := Lib.hid (fun W (hb : Below w.heap.size w W) => bankCopied Gs[k] W (hin1.dom.1.later hb) (hin1.pth.1.later hb) (Nat.le_trans (show Gs[k].ask.d.domain.length ≤ 100000 from hok1.l1) (by decide)) (Nat.le_trans (show Gs[k].paths.length ≤ 100000 from hok1.l2) (by decide)))
      have hnx := Lib.hid (show (Gs.take (k + 1)).map Gra.d = (Gs.take k).map Gra.d ++ [Gs[k].d] by rw [List.take_succ_eq_append_getElem hlt, List.map_append]; rfl)
      have hZ := Blk.new wr zGra tGra
      have hbs := hB.out.size
      clear hc hok1 hin1 hmem
      generalize Gs[k] = x at hrg hco hnx
      have hl1 : Hs.length + 1 ≤ maxLen := by unfold maxLen; omega
      have hl2 : (Hs.length + 1) * 216 ≤ 140737488355328 := by omega
      go_wp2_with (first
        | (refine wpList_load_mid rfl tGra _ rfl pb (po + k * 16) rfl (encGra x) _ hrg undGra rfl infoGra ?_)
        | (refine wpList_store_blk rfl tGra _ _ rfl _ rfl hZ x.arr rfl rfl infoGra (gra_one x) ?_; intro wa hpas hga; have hga1 := (Below.refl wr.heap.size wr).alloc (Nat.le_refl _) (.cells zGra tGra); have hgb := below_only hga1 hga (by simp) (Nat.le_refl _); have hBa := Lib.hid (hB.out.then (Nat.le_refl _) hgb); have hOa := Lib.hid (OwnG.later hO.out hgb); have hIa := Lib.hid (fun g hg => ((hIn.out g hg).later hgb)); have hca := hco.out wa hBa.out; have hgs := Lib.hid hgb.size; clear hga1 hgb)
        | (refine wpList_load_blk rfl tGra _ rfl _ rfl hpas _ undGra rfl infoGra ?_)
        | (go_at_call 30; refine hca.mono ?_; rintro e w2 ⟨g', hgd, rfl, ht1, ht2, hb1, hb2, hB2⟩; have hO2 := OwnG.later hOa.out hB2; have hB3 := Lib.hid (hBa.out.then (Nat.le_refl _) hB2); have hI2 := Lib.hid (fun g hg => ((hIa.out g hg).later hB2)); have hbs3 := hB3.out.size; have hgs2 := Lib.hid hB2.size; have hG := Lib.hid (⟨hgd, ht1, ht2, hb1, hb2⟩ : _ ∧ _ ∧ _ ∧ _ ∧ _); clear hgd ht1 ht2 hb1 hb2 hB2)
        | (at_builtin; refine wpList_append_one wholeGD Tryd.underlying24 (by rfl) (by decide) encGra_len (by rfl) _ _ (by rfl) w2 w.heap.size (.slice a5 Hs.length cap5) Hs (by rfl) hO2 g' (encGra_one _) _ (by rfl) _ (by rfl) (by rfl) hl1 hl2 hbs3 ?_; intro v4 w4 hO4 hG4 hne4))
      obtain ⟨hgd, ht1, ht2, hb1, hb2⟩ := hG.out
      have hB4 := Lib.hid (below_append hB3.out hO2 hG4 hB3.out.size)
      have hO4' := Lib.hid hO4
      have hal2 : Below w2.heap.size w2 (w2.alloc (.cells g'.arr tGra)) := (Below.refl _ _).alloc (Nat.le_refl _) _
      have hO2a := OwnG.later hO2 hal2
      have ho4 : Only (fun i => (Value.slice a5 Hs.length cap5).ownBlock = some i) (w2.alloc (.cells g'.arr tGra)) w4 := Only.of_grown hG4 (fun i e => e)
      have hz1 := hgs.out
      have hz2 := hgs2.out
      have hz4 := ho4.size
      have hza : (w2.alloc (.cells g'.arr tGra)).heap.size = w2.heap.size + 1 := by simp
      have hg' : g'.In w2 (since w w2) := ⟨ht1, ht2, fun _ y hy => ⟨by have := (hb1 y hy).1; have := hBa.out.size; omega, (hb1 y hy).2⟩, fun _ y hy => ⟨by have := (hb2 y hy).1; have := hBa.out.size; omega, (hb2 y hy).2⟩⟩
      have hI4 : Hid (∀ g ∈ Hs ++ [g'], g.In w4 (since w w4)) := Lib.hid (fun g hg => by
        rcases List.mem_append.1 hg with hg | hg
        · exact (((hI2.out g hg).later hal2).own (by decide) hO2a ho4).mono (since_later (by omega))
        · rw [List.mem_singleton.1 hg]
          exact ((hg'.later hal2).own (by decide) hO2a ho4).mono (since_later (by omega)))
      have hm4 : Hid ((Hs ++ [g']).map Gra.d = (Gs.take (k + 1)).map Gra.d) := Lib.hid (by rw [hnx.out, List.map_append, hMap.out]; simp [hgd])
      have hHk1 := Lib.hid (show (Hs ++ [g']).length = k + 1 by rw [List.length_append, hHk.out]; rfl)
      clear hz1 hz2 hz4 hza hgd
      go_roundw
      case rel => exact ⟨k + 1, Hs ++ [g'], by omega, by go_num, hHk1.out, hm4, hO4', hI4, hB4⟩
      case measure => simp [intOf]; omega
    · obtain rfl : Gs.length = k := by omega
      have hm := hMap
      rw [List.take_length] at hm
      go_wp2
      go_ret
      exact ⟨_, Hs, rfl, hO.out, hm.out, hIn.out, hB.out⟩
set_option maxRecDepth 100000 in
set_option maxHeartbeats 4000000 in
theorem bankWaits (b : Nat) (S : Nat → Prop) (gs : List GraD) (ws : List WaiD) (w : World) (hB : BankR w b S gs ws) (hl : ws.length ≤ 100000) :
    Calls Tryd.prog 25 #[.pointer (some ⟨b, 0, none⟩)] w (WaitsPost ws w) := by
  have hok := hB.okW
  obtain ⟨vg, vw, Gs, Ws, hv, _, hO, _, _, _, rfl, _, hIn⟩ := hB.box
  rw [List.length_map] at hl
  obtain ⟨a1, cap1, rfl, hrow, _⟩ := OwnG.shape encWai_len hO
  have c0 : _ = some (Value.slice a1 Ws.length cap1) := hv.cell 1 rfl
  have hrH := Lib.hid hrow
  have hIH := Lib.hid hIn
  have hokH := Lib.hid hok
  clear hB hO hv hrow hIn hok
  go_enter Tryd.func25, Tryd.ntmps25
  go_wp2
  go_loopw [3, 5, 11] (fun vl _ vi wr => ∃ (k : Nat) (Hs : List Wai), k ≤ Ws.length ∧ vi = .int .i64 k ∧ Hs.length = k ∧ Hid (Hs.map Wai.d = (Ws.take k).map Wai.d) ∧ Hid (OwnG tWai 13 encWai wr w.heap.size vl Hs) ∧ Hid (∀ g ∈ Hs, g.In wr (since w wr)) ∧ Hid (Below w.heap.size w wr)) (fun _ _ vi _ => Ws.length - (intOf vi).toNat)
  case atStart => exact ⟨0, [], Nat.zero_le _, rfl, rfl, Lib.hid rfl, Lib.hid (OwnG.nil _ _), Lib.hid (fun g hg => by cases hg), Lib.hid (Below.refl _ _)⟩
  case round =>
    obtain ⟨k, Hs, hk, rfl, hHl, hMap, hO, hIn, hB⟩ := hrel
    obtain ⟨a5, cap5, rfl, hs5⟩ := OwnG.shape encWai_len hO.out
    clear hs5
    have hHk := Lib.hid hHl
    have hHle : Hs.length ≤ 100000 := by omega
    clear hHl
    by_cases hlt : k < Ws.length
    · obtain ⟨pb, po, rfl, hc⟩ := (hrH.out.later hB.out) k hlt
      have hrg : wr.rangeAt pb (po + k * 13) (encWai Ws[k]) := hc
      have hmem := List.getElem_mem hlt
      have hok1 := hokH.out _ (List.mem_map_of_mem hmem)
      have hin1 := hIH.out _ hmem
      have hco := Lib.hid (fun W (hb : Below w.heap.size w W) => cloneS Ws[k].ask.addr Ws[k].ask.cap Ws[k].ask.d.domain W (hin1.dom.1.later hb) (Nat.le_trans (show Ws[k].ask.d.domain.length ≤ 100000 from hok1.l1) (by decide)))
      have hnx := Lib.hid (show (Ws.take (k + 1)).map Wai.d = (Ws.take k).map Wai.d ++ [Ws[k].d] by rw [List.take_succ_eq_append_getElem hlt, List.map_append]; rfl)
      have hZ := Blk.new wr zWai tWai
      have hbs := hB.out.size
      clear hc hok1 hin1 hmem
      generalize Ws[k] = x at hrg hco hnx
      have hl1 : Hs.length + 1 ≤ maxLen := by unfold maxLen; omega
      have hl2 : (Hs.length + 1) * 168 ≤ 140737488355328 := by omega
      go_upto_region 5 with (first
        | (refine wpList_load_mid rfl tWai _ rfl pb (po + k * 13) rfl (encWai x) _ hrg undWai rfl infoWai ?_)
        | (refine wpList_store_blk rfl tWai _ _ rfl _ rfl hZ x.arr rfl rfl infoWai (wai_one x) ?_; intro wa hpas hga))
      have hga1 := (Below.refl wr.heap.size wr).alloc (Nat.le_refl _) (.cells zWai tWai)
      have hgb := below_only hga1 hga (by simp) (Nat.le_refl _)
      have hBa := Lib.hid (hB.out.then (Nat.le_refl _) hgb)
      have hOa := Lib.hid (OwnG.later hO.out hgb)
      have hIa := Lib.hid (fun g hg => ((hIn.out g hg).later hgb))
      have hca := hco.out wa hBa.out
      have hgs := Lib.hid hgb.size
      have c12 : _ = some (Value.slice x.ask.addr x.ask.d.domain.length x.ask.cap) := hpas.cell 12 rfl
      have hgw := hpas.lt
      have hfr := Lib.hid (fun g hg => (hO.out.lt g hg).2)
      clear hga1 hgb hga hrg hZ hO hIn hB
      go_wp2_with fail
      refine hca.mono ?_
      rintro e w2 ⟨v2, rfl, hS2, hB2⟩
      obtain ⟨a2, c2, rfl, _⟩ := OwnStr.shape hS2
      have hp2 := hpas.later hB2
      have hS2h := Lib.hid hS2
      have hB2h := Lib.hid hB2
      clear hca hpas c12 hS2 hB2
      go_upto_region 6 with (refine wpList_store_cell rfl _ _ _ (by rfl) wr.heap.size 12 (by rfl) hp2 (by decide : 12 < 13) (.slice a2 x.ask.d.domain.length c2) (by rfl) (by rfl) (by rfl) infoStrsA ?_; intro w3 hp3 hg3)
      obtain ⟨x', hx'⟩ : ∃ x' : Wai, x' = ⟨x.orig, x.proxy, x.path, ⟨x.ask.d, a2, c2⟩⟩ := ⟨_, rfl⟩
      have hp3' : Blk w3 wr.heap.size x'.arr tWai := by rw [hx']; exact hp3
      have ho3 : Only (fun i => i = wr.heap.size) w2 w3 := Only.of_grown hg3 (fun i e => (Option.some.inj e).symm)
      have hws := hbs
      have hB3 := below_only (hBa.out.then (Nat.le_refl _) hB2h.out) hg3 (hBa.out.then (Nat.le_refl _) hB2h.out).size hbs
      have hO3 : OwnG tWai 13 encWai w3 w.heap.size (.slice a5 Hs.length cap5) Hs := (OwnG.later hOa.out hB2h.out).kept ho3 (fun g hg e => by have := hfr.out g hg; omega)
      have hI3 := Lib.hid (fun g hg => (((hIa.out g hg).later hB2h.out).box hp2 (by decide) ho3))
      have ht3 : TxtAt w3 a2 x.ask.d.domain := hS2h.out.txt.kept ho3 (fun _ y hy e => by have := (OwnStr.lies hS2h.out y hy).1; omega)
      have hb3 := fun y hy => OwnStr.lies hS2h.out y hy
      have hbs3 := hB3.size
      have hz3 := ho3.size
      have hxd : Hid (x'.d = x.d) := Lib.hid (by rw [hx'])
      have hin3 : Hid (x'.In w3 (since w w3)) := Lib.hid (by
        rw [hx']
        exact ⟨ht3, fun _ y hy => ⟨by have := (hb3 y hy).1; have := hBa.out.size; omega, by have := (hb3 y hy).2; omega⟩⟩)
      have hB3h := Lib.hid hB3
      have hzz := Lib.hid (show wa.heap.size ≤ w3.heap.size from Nat.le_trans hB2h.out.size hz3)
      clear hx' hp3 hp2 ho3 hg3 hb3 ht3 hB3 hz3
      go_wp2_with (first
        | (refine wpList_load_blk rfl tWai _ rfl _ rfl hp3' _ undWai rfl infoWai ?_)
        | (at_builtin; refine wpList_append_one wholeWD Tryd.underlying25 (by rfl) (by decide) encWai_len (by rfl) _ _ (by rfl) w3 w.heap.size (.slice a5 Hs.length cap5) Hs (by rfl) hO3 x' (encWai_one _) _ (by rfl) _ (by rfl) (by rfl) hl1 hl2 hbs3 ?_; intro v4 w4 hO4 hG4 hne4))
      have hB4 := Lib.hid (below_append hB3h.out hO3 hG4 hbs3)
      have hO4' := Lib.hid hO4
      have hal2 : Below w3.heap.size w3 (w3.alloc (.cells x'.arr tWai)) := (Below.refl _ _).alloc (Nat.le_refl _) _
      have hO2a := OwnG.later hO3 hal2
      have ho4 : Only (fun i => (Value.slice a5 Hs.length cap5).ownBlock = some i) (w3.alloc (.cells x'.arr tWai)) w4 := Only.of_grown hG4 (fun i e => e)
      have hz4 := ho4.size
      have hza : (w3.alloc (.cells x'.arr tWai)).heap.size = w3.heap.size + 1 := by simp
      have hzw := hzz.out
      have hI4 : Hid (∀ g ∈ Hs ++ [x'], g.In w4 (since w w4)) := Lib.hid (fun g hg => by
        rcases List.mem_append.1 hg with hg | hg
        · exact (((hI3.out g hg).later hal2).own (by decide) hO2a ho4).mono (since_later (by have := hgs.out; omega))
        · rw [List.mem_singleton.1 hg]
          exact ((hin3.out.later hal2).own (by decide) hO2a ho4).mono (since_later (by omega)))
      have hm4 : Hid ((Hs ++ [x']).map Wai.d = (Ws.take (k + 1)).map Wai.d) := Lib.hid (by rw [hnx.out, List.map_append, hMap.out, List.map_singleton, hxd.out])
      have hHk1 := Lib.hid (show (Hs ++ [x']).length = k + 1 by rw [List.length_append, hHk.out]; rfl)
      clear hz4 hza hzw
      go_roundw
      case rel => exact ⟨k + 1, Hs ++ [x'], by omega, by go_num, hHk1.out, hm4, hO4', hI4, hB4⟩
      case measure => simp [intOf]; omega
    · obtain rfl : Ws.length = k := by omega
      have hm := hMap
      rw [List.take_length] at hm
      go_wp2
      go_ret
      exact ⟨_, Hs, rfl, hO.out, hm.out, hIn.out, hB.out⟩
def CopyBPost (gs : List GraD) (ws : List WaiD) (w : World) (e : Ending) (w' : World) : Prop := ∃ b, e = .returned (.pointer (some ⟨b, 0, none⟩)) ∧ BankR w' b (since w w') gs ws ∧ Below w.heap.size w w'
set_option maxRecDepth 100000 in
theorem bankCopyP (b : Nat) (S : Nat → Prop) (gs : List GraD) (ws : List WaiD) (w : World) (hB : BankR w b S gs ws) (hl : gs.length ≤ 100000) (hl2 : ws.length ≤ 100000) :
    Calls Tryd.prog 29 #[.pointer (some ⟨b, 0, none⟩)] w (CopyBPost gs ws w) := by
  have hg := bankGrants b S gs ws w hB hl
  have hw := Lib.hid (fun w1 (h : Below w.heap.size w w1) => bankWaits b S gs ws w1 (hB.later h) hl2)
  have hok1 := Lib.hid hB.okG
  have hok2 := Lib.hid hB.okW
  clear hB
  go_enter Tryd.func29, Tryd.ntmps29
  go_wp2_with fail
  refine hg.mono ?_
  rintro e w1 ⟨vg, Gs, rfl, hO1, hm1, hI1, hB1⟩
  obtain ⟨a1, c1, rfl, _⟩ := OwnG.shape encGra_len hO1
  have hw1 := hw.out w1 hB1
  have hO1h := Lib.hid hO1
  have hm1h := Lib.hid hm1
  have hI1h := Lib.hid hI1
  have hB1h := Lib.hid hB1
  clear hg hO1 hm1 hI1 hB1
  go_wp2_with fail
  refine hw1.mono ?_
  rintro e w2 ⟨vw, Ws, rfl, hO2, hm2, hI2, hB2⟩
  obtain ⟨a2, c2, rfl, _⟩ := OwnG.shape encWai_len hO2
  have hO2h := Lib.hid hO2
  have hm2h := Lib.hid hm2
  have hI2h := Lib.hid hI2
  have hB2h := Lib.hid hB2
  have hB3 := Lib.hid (hB1h.out.then (Nat.le_refl _) hB2)
  have hs1 := hB1h.out.size
  have hs2 := hB2.size
  clear hw1 hO2 hm2 hI2 hB2
  go_wp2
  go_ret
  have hal : Below w2.heap.size w2 (w2.alloc (.cells #[.slice a1 Gs.length c1, .slice a2 Ws.length c2] tBank)) := (Below.refl _ _).alloc (Nat.le_refl _) _
  have hsz : (w2.alloc (.cells #[.slice a1 Gs.length c1, .slice a2 Ws.length c2] tBank)).heap.size = w2.heap.size + 1 := by simp
  have hN := Blk.new w2 #[.slice a1 Gs.length c1, .slice a2 Ws.length c2] tBank
  have hBf := hB3.out.alloc hB3.out.size (.cells #[.slice a1 Gs.length c1, .slice a2 Ws.length c2] tBank)
  have hR : BankR (w2.alloc (.cells #[.slice a1 Gs.length c1, .slice a2 Ws.length c2] tBank)) w2.heap.size (since w (w2.alloc (.cells #[.slice a1 Gs.length c1, .slice a2 Ws.length c2] tBank))) gs ws := by
    generalize w2.alloc (.cells #[.slice a1 Gs.length c1, .slice a2 Ws.length c2] tBank) = wf at hal hsz hN hBf ⊢
    refine ⟨⟨_, _, Gs, Ws, hN, (OwnG.later (OwnG.later hO1h.out hB2h.out) hal).base (fun _ _ => Nat.zero_le _), (OwnG.later hO2h.out hal).base (fun _ _ => Nat.zero_le _), ?_, ?_, hm1h.out, hm2h.out, ?_, ?_⟩, ⟨by omega, by omega⟩, fun i hi => hi.2, hok1.out, hok2.out⟩
    · intro g hg
      have := hO1h.out.lt g hg
      exact ⟨this.1, by omega⟩
    · intro g hg
      have := hO2h.out.lt g hg
      exact ⟨by omega, by omega⟩
    · intro g hg
      exact (((hI1h.out g hg).later hB2h.out).later hal).mono (since_later (by omega))
    · intro g hg
      exact ((hI2h.out g hg).later hal).mono (fun i hi => ⟨by have := hi.1; omega, by have := hi.2; omega⟩)
  exact ⟨_, rfl, hR, hBf⟩
end Go.Proofs.YtchgpdgigpaloaaDoor
