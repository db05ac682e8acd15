/- The program's bank: find, Get, Grants, Waits, Copy. -/
import Derived.Test.YtchgpdgigpaloaaDoorBankB
namespace Go.Proofs.YtchgpdgigpaloaaDoor
set_option linter.unusedSimpArgs false
open Go.RowKit Go.Deep
theorem findStep_yes {o : Org} {p : Bool} {path : ByteArray} {st : Int × Int} {g : GraD} {k : Nat} (h0 : 0 ≤ reachB o p path g) (h1 : st.1 ≤ reachB o p path g) : findStep o p path st (g, k) = (reachB o p path g, (k : Int)) := by
  unfold findStep; rw [if_pos ⟨h0, h1⟩]
theorem findStep_no {o : Org} {p : Bool} {path : ByteArray} {st : Int × Int} {g : GraD} {k : Nat} (h : ¬ (0 ≤ reachB o p path g ∧ st.1 ≤ reachB o p path g)) : findStep o p path st (g, k) = st := by
  unfold findStep; rw [if_neg h]
theorem find_snoc {o : Org} {p : Bool} {path : ByteArray} {Gs : List Gra} {k : Nat} (h : k < Gs.length) : findL o p path ((Gs.take (k + 1)).map Gra.d) = findStep o p path (findL o p path ((Gs.take k).map Gra.d)) (Gs[k].d, k) := by
  rw [List.take_succ_eq_append_getElem h, List.map_append, List.map_singleton, findL_snoc]
  congr 2
  simp; omega
theorem reachB_ge (o : Org) (p : Bool) (path : ByteArray) (g : GraD) : -1 ≤ reachB o p path g := by
  unfold reachB reachL
  split
  · exact reach_ge path g.paths (-1)
  · omega
theorem reachB_le (o : Org) (p : Bool) (path : ByteArray) (g : GraD) (h : ∀ x ∈ g.paths, x.size ≤ 140737488351232) : reachB o p path g ≤ 140737488351232 := by
  unfold reachB reachL
  split
  · exact reach_le path g.paths (-1) (by omega) h
  · omega
set_option maxRecDepth 100000 in
set_option maxHeartbeats 4000000 in
theorem bankFind (b : Nat) (S : Nat → Prop) (gs : List GraD) (ws : List WaiD) (o : Org) (p : Bool) (path : ByteArray) (w : World) (hB : BankR w b S gs ws) (hl : gs.length ≤ 100000) :
    Calls Tryd.prog 33 #[.pointer (some ⟨b, 0, none⟩), .agg (orgArr o), .bool p, .string path] w fun e w' => e = .returned (.int .i64 (findB o p path gs)) ∧ Below w.heap.size w w' := by
  have hok := hB.okG
  obtain ⟨vg, vw, Gs, Ws, hv, hO, _, _, _, rfl, _, hIn, _⟩ := hB.box
  rw [List.length_map] at hl
  obtain ⟨a1, cap1, rfl, hrow, _⟩ := OwnG.shape encGra_len hO
  have hal := (Below.refl w.heap.size w).alloc (Nat.le_refl _) (.cells (orgArr o) 32)
  have c0 : _ = some (Value.slice a1 Gs.length cap1) := (hv.later hal).cell 0 rfl
  have hq0 := Lib.hid (Blk.new w (orgArr o) 32)
  have hB0 := Lib.hid hal
  have hrH := Lib.hid hrow
  have hIH := Lib.hid hIn
  have hokH := Lib.hid hok
  clear hB hO hv hal hrow hIn hok
  go_enter Tryd.func33, Tryd.ntmps33
  go_wp2
  go_loopw [9, 10, 11, 12, 13, 19] (fun vb va _ _ _ vi wr => ∃ (k : Nat) (m j : Int), k ≤ Gs.length ∧ vi = .int .i64 k ∧ vb = .int .i64 m ∧ va = .int .i64 j ∧ Hid ((m, j) = findL o p path ((Gs.take k).map Gra.d)) ∧ Hid (Below w.heap.size w wr) ∧ Hid (Blk wr w.heap.size (orgArr o) 32)) (fun _ _ _ _ _ vi _ => Gs.length - (intOf vi).toNat)
  case atStart => exact ⟨0, -1, -1, Nat.zero_le _, rfl, rfl, rfl, Lib.hid rfl, hB0, hq0⟩
  case round =>
    obtain ⟨k, m, j, hk, rfl, rfl, rfl, hF, hB, hq⟩ := hrel
    by_cases hlt : k < Gs.length
    · obtain ⟨pb, po, rfl, hc⟩ := (hrH.out.later hB.out) k hlt
      have hrg : wr.rangeAt pb (po + k * 16) (encGra Gs[k]) := hc
      have hmem := List.getElem_mem hlt
      have hok1 := hokH.out _ (List.mem_map_of_mem hmem)
      have hin1 := hIH.out _ hmem
      have hn := Lib.hid (show findL o p path ((Gs.take (k + 1)).map Gra.d) = findStep o p path (m, j) (Gs[k].d, k) by rw [find_snoc hlt, ← hF.out])
      have hre := fun W (hb : Below w.heap.size w W) => bankReach Gs[k] o p path W (hin1.pth.1.later hb) (Nat.le_trans (show Gs[k].paths.length ≤ 100000 from hok1.l2) (by decide)) hok1.sz
      have hr0 := reachB_ge o p path Gs[k].d
      have hr1 := reachB_le o p path Gs[k].d hok1.sz
      have hZ := Blk.new wr zGra tGra
      have hbs := hB.out.size
      have hgp := hq.out.lt
      clear hc hok1 hin1 hmem
      obtain ⟨rv, hrv⟩ : ∃ rv, reachB o p path Gs[k].d = rv := ⟨_, rfl⟩
      rw [hrv] at hr0 hr1
      simp only [hrv] at hre
      have hys := Lib.hid (fun (h0 : 0 ≤ rv) (h1 : m ≤ rv) => show findStep o p path (m, j) (Gs[k].d, k) = (rv, (k : Int)) by rw [← hrv]; exact findStep_yes (by rw [hrv]; exact h0) (by rw [hrv]; exact h1))
      have hns := Lib.hid (fun (h : ¬ (0 ≤ rv ∧ m ≤ rv)) => show findStep o p path (m, j) (Gs[k].d, k) = (m, j) by exact findStep_no (by rw [hrv]; exact h))
      clear hrv
      generalize Gs[k] = x at hrg hn hre hys hns
      by_cases hc0 : 0 ≤ rv
      · by_cases hc1 : m ≤ rv
        · have hf := Lib.hid (show (rv, (k : Int)) = findL o p path ((Gs.take (k + 1)).map Gra.d) by rw [hn.out, hys.out hc0 hc1])
          clear hn hys hns
          go_wp2_with (first
            | (refine wpList_load_mid rfl tGra _ rfl pb (po + k * 16) rfl (encGra x) _ hrg undGra rfl infoGra ?_)
            | (refine wpList_store_blk rfl tGra _ _ rfl _ rfl hZ x.arr rfl rfl infoGra (gra_one x) ?_; intro wa hpas hga; have hBa := Lib.hid (below_only (hB.out.alloc hbs (.cells zGra tGra)) hga (by simp; omega) hbs); have hqa := (hq.out.alloc (.cells zGra tGra)).grown hga (fun e => by have := Option.some.inj e; omega); have hre2 := hre wa hBa.out)
            | (refine wpList_load_blk rfl tGra _ rfl _ rfl hpas _ undGra rfl infoGra ?_)
            | (refine wpList_load_blk rfl 32 _ rfl _ rfl hqa _ Tryd.underlying32 rfl infoOrgB ?_)
            | (refine hre2.mono ?_; rintro e w2 ⟨rfl, hB2⟩; have hB3 := Lib.hid (hBa.out.then (Nat.le_refl _) hB2); have hq2 := Lib.hid (hqa.later hB2)))
          go_roundw
          case rel => exact ⟨k + 1, rv, k, by omega, by go_num, rfl, rfl, hf, hB3, hq2⟩
          case measure => simp [intOf]; omega
        · have hf := Lib.hid (show (m, j) = findL o p path ((Gs.take (k + 1)).map Gra.d) by rw [hn.out, hns.out (fun h => hc1 h.2)])
          clear hn hys hns
          go_wp2_with (first
            | (refine wpList_load_mid rfl tGra _ rfl pb (po + k * 16) rfl (encGra x) _ hrg undGra rfl infoGra ?_)
            | (refine wpList_store_blk rfl tGra _ _ rfl _ rfl hZ x.arr rfl rfl infoGra (gra_one x) ?_; intro wa hpas hga; have hBa := Lib.hid (below_only (hB.out.alloc hbs (.cells zGra tGra)) hga (by simp; omega) hbs); have hqa := (hq.out.alloc (.cells zGra tGra)).grown hga (fun e => by have := Option.some.inj e; omega); have hre2 := hre wa hBa.out)
            | (refine wpList_load_blk rfl tGra _ rfl _ rfl hpas _ undGra rfl infoGra ?_)
            | (refine wpList_load_blk rfl 32 _ rfl _ rfl hqa _ Tryd.underlying32 rfl infoOrgB ?_)
            | (refine hre2.mono ?_; rintro e w2 ⟨rfl, hB2⟩; have hB3 := Lib.hid (hBa.out.then (Nat.le_refl _) hB2); have hq2 := Lib.hid (hqa.later hB2)))
          go_roundw
          case rel => exact ⟨k + 1, m, j, by omega, by go_num, rfl, rfl, hf, hB3, hq2⟩
          case measure => simp [intOf]; omega
      · have hf := Lib.hid (show (m, j) = findL o p path ((Gs.take (k + 1)).map Gra.d) by rw [hn.out, hns.out (fun h => hc0 h.1)])
        clear hn hys hns
        go_wp2_with (first
          | (refine wpList_load_mid rfl tGra _ rfl pb (po + k * 16) rfl (encGra x) _ hrg undGra rfl infoGra ?_)
          | (refine wpList_store_blk rfl tGra _ _ rfl _ rfl hZ x.arr rfl rfl infoGra (gra_one x) ?_; intro wa hpas hga; have hBa := Lib.hid (below_only (hB.out.alloc hbs (.cells zGra tGra)) hga (by simp; omega) hbs); have hqa := (hq.out.alloc (.cells zGra tGra)).grown hga (fun e => by have := Option.some.inj e; omega); have hre2 := hre wa hBa.out)
          | (refine wpList_load_blk rfl tGra _ rfl _ rfl hpas _ undGra rfl infoGra ?_)
          | (refine wpList_load_blk rfl 32 _ rfl _ rfl hqa _ Tryd.underlying32 rfl infoOrgB ?_)
          | (refine hre2.mono ?_; rintro e w2 ⟨rfl, hB2⟩; have hB3 := Lib.hid (hBa.out.then (Nat.le_refl _) hB2); have hq2 := Lib.hid (hqa.later hB2)))
        go_roundw
        case rel => exact ⟨k + 1, m, j, by omega, by go_num, rfl, rfl, hf, hB3, hq2⟩
        case measure => simp [intOf]; omega
    · obtain rfl : Gs.length = k := by omega
      have hF' := hF
      rw [List.take_length] at hF'
      go_wp2
      go_ret
      exact ⟨by rw [show findB o p path (Gs.map Gra.d) = j from by unfold findB; rw [← hF'.out]]; rfl, hB.out⟩
/-- a grant that a call gives: its texts in rows of its own, or none -/
def GotG (g : GraD) (w w' : World) (g' : Gra) : Prop := g'.d = g ∧ TxtAt w' g'.ask.addr g'.ask.d.domain ∧ TxtAt w' g'.addr g'.paths ∧ (∀ x, g'.ask.addr = some x → w.heap.size ≤ x.block ∧ x.block < w'.heap.size) ∧ (∀ x, g'.addr = some x → w.heap.size ≤ x.block ∧ x.block < w'.heap.size)
def GetPost (r : Option GraD) (w : World) (e : Ending) (w' : World) : Prop := ∃ g' : Gra, GotG (r.getD graZero) w w' g' ∧ e = .returned (.tuple #[.agg g'.arr, .bool r.isSome]) ∧ Below w.heap.size w w'
theorem got_zero (w w' : World) : GotG graZero w w' ⟨⟨false, ⟨#[]⟩, 0⟩, false, ⟨#[]⟩, ⟨#[]⟩, ⟨askZero, none, 0⟩, 0, [], none, 0⟩ :=
  ⟨rfl, TxtAt.nil _ _, TxtAt.nil _ _, (fun x hx => by cases hx), (fun x hx => by cases hx)⟩
theorem get_yes {o : Org} {p : Bool} {r : ByteArray} {Gs : List Gra} {k : Nat} (h : k < Gs.length) (e : keyG o p r Gs[k].d = true) (h0 : (Gs.take k).any (fun g => keyG o p r g.d) = false) : bankGet o p r (Gs.map Gra.d) = some Gs[k].d := by
  unfold bankGet
  have hs : Gs = Gs.take k ++ (Gs[k] :: Gs.drop (k + 1)) := by rw [← List.drop_eq_getElem_cons h, List.take_append_drop]
  conv => lhs; rw [hs]
  rw [List.map_append, List.find?_append]
  have : ((Gs.take k).map Gra.d).find? (keyG o p r) = none := by
    rw [List.find?_eq_none]
    intro x hx
    obtain ⟨y, hy, rfl⟩ := List.mem_map.1 hx
    have := List.any_eq_false.1 h0 y hy
    simpa using this
  rw [this, Option.none_or, List.map_cons, List.find?_cons, e]
theorem get_none {o : Org} {p : Bool} {r : ByteArray} {Gs : List Gra} (h0 : Gs.any (fun g => keyG o p r g.d) = false) : bankGet o p r (Gs.map Gra.d) = none := by
  unfold bankGet
  rw [List.find?_eq_none]
  intro x hx
  obtain ⟨y, hy, rfl⟩ := List.mem_map.1 hx
  have := List.any_eq_false.1 h0 y hy
  simpa using this
set_option maxRecDepth 100000 in
set_option maxHeartbeats 4000000 in
theorem bankGetP (b : Nat) (S : Nat → Prop) (gs : List GraD) (ws : List WaiD) (o : Org) (p : Bool) (r : ByteArray) (w : World) (hB : BankR w b S gs ws) (hl : gs.length ≤ 100000) :
    Calls Tryd.prog 22 #[.pointer (some ⟨b, 0, none⟩), .agg (orgArr o), .bool p, .string r] w (GetPost (bankGet o p r gs) w) := by
  have hok := hB.okG
  obtain ⟨vg, vw, Gs, Ws, hv, hO, _, _, _, rfl, _, hIn, _⟩ := hB.box
  rw [List.length_map] at hl
  obtain ⟨a1, cap1, rfl, hrow, _⟩ := OwnG.shape encGra_len hO
  have hal := ((Below.refl w.heap.size w).alloc (Nat.le_refl _) (.cells (orgArr o) 32)).alloc (by simp) (.cells zGra tGra)
  have c0 : _ = some (Value.slice a1 Gs.length cap1) := (hv.later hal).cell 0 rfl
  have hq0 := Lib.hid ((Blk.new w (orgArr o) 32).alloc (.cells zGra tGra))
  have hz0 := Lib.hid (show Blk ((w.alloc (.cells (orgArr o) 32)).alloc (.cells zGra tGra)) (w.heap.size + 1) zGra tGra by have := Blk.new (w.alloc (.cells (orgArr o) 32)) zGra tGra; rwa [World.size_alloc] at this)
  have hB0 := Lib.hid hal
  have hrH := Lib.hid hrow
  have hIH := Lib.hid hIn
  have hokH := Lib.hid hok
  clear hB hO hv hal hrow hIn hok
  go_enter Tryd.func22, Tryd.ntmps22
  go_wp2
  go_loopw [11, 17] (fun _ vi wr => ∃ k : Nat, k ≤ Gs.length ∧ vi = .int .i64 k ∧ Hid ((Gs.take k).any (fun g => keyG o p r g.d) = false) ∧ Hid (Below w.heap.size w wr) ∧ Hid (Blk wr w.heap.size (orgArr o) 32) ∧ Hid (Blk wr (w.heap.size + 1) zGra tGra)) (fun _ vi _ => Gs.length - (intOf vi).toNat)
  case atStart => exact ⟨0, Nat.zero_le _, rfl, Lib.hid rfl, hB0, hq0, hz0⟩
  case round =>
    obtain ⟨k, hk, rfl, hN, hB, hq, hzz⟩ := hrel
    by_cases hlt : k < Gs.length
    · obtain ⟨pb, po, rfl, hc⟩ := (hrH.out.later hB.out) k hlt
      have hrg : wr.rangeAt pb (po + k * 16) (encGra Gs[k]) := hc
      have hmem := List.getElem_mem hlt
      have hok1 := hokH.out _ (List.mem_map_of_mem hmem)
      have hin1 := hIH.out _ hmem
      have hsa := fun W => bankSame Gs[k] o p r W
      have hco := Lib.hid (fun W (hb : Below w.heap.size w W) => bankCopied Gs[k] W (hin1.dom.1.later hb) (hin1.pth.1.later hb) (Nat.le_trans (show Gs[k].ask.d.domain.length ≤ 100000 from hok1.l1) (by decide)) (Nat.le_trans (show Gs[k].paths.length ≤ 100000 from hok1.l2) (by decide)))
      have hZ := Blk.new wr zGra tGra
      have hbs := hB.out.size
      have hgp := hzz.out.lt
      have hno := Lib.hid (fun e => any_take_noR (f := fun g : Gra => keyG o p r g.d) hlt hN.out e)
      have hye := Lib.hid (fun e => get_yes (o := o) (p := p) (r := r) hlt e hN.out)
      clear hc hok1 hin1 hmem
      generalize Gs[k] = x at hrg hsa hco hno hye
      cases hq1 : keyG o p r x.d
      · have hn' := Lib.hid (hno.out hq1)
        simp only [hq1] at hsa
        clear hq1 hno hye hco
        go_wp2_with (first
          | (refine wpList_load_mid rfl tGra _ rfl pb (po + k * 16) rfl (encGra x) _ hrg undGra rfl infoGra ?_)
          | (refine wpList_store_blk rfl tGra _ _ rfl _ rfl hZ x.arr rfl rfl infoGra (gra_one x) ?_; intro wa hpas hga; have hBa := Lib.hid (below_only (hB.out.alloc hbs (.cells zGra tGra)) hga (by simp; omega) hbs); have hqa := (hq.out.alloc (.cells zGra tGra)).grown hga (fun e => by have := Option.some.inj e; omega); have hza := Lib.hid ((hzz.out.alloc (.cells zGra tGra)).grown hga (fun e => by have := Option.some.inj e; omega)))
          | (refine wpList_load_blk rfl tGra _ rfl _ rfl hpas _ undGra rfl infoGra ?_)
          | (refine wpList_load_blk rfl 32 _ rfl _ rfl hqa _ Tryd.underlying32 rfl infoOrgB ?_)
          | (refine (hsa _).mono ?_; rintro e w2 ⟨rfl, hB2⟩; have hB3 := Lib.hid (hBa.out.then (Nat.le_refl _) hB2); have hq2 := Lib.hid (hqa.later hB2); have hz2 := Lib.hid (hza.out.later hB2)))
        go_roundw
        case rel => exact ⟨k + 1, by omega, by go_num, hn', hB3, hq2, hz2⟩
        case measure => simp [intOf]; omega
      · have hy' := Lib.hid (hye.out hq1)
        simp only [hq1] at hsa
        clear hq1 hno hye
        go_wp2_with (first
          | (refine wpList_load_mid rfl tGra _ rfl pb (po + k * 16) rfl (encGra x) _ hrg undGra rfl infoGra ?_)
          | (refine wpList_store_blk rfl tGra _ _ rfl _ rfl hZ x.arr rfl rfl infoGra (gra_one x) ?_; intro wa hpas hga; have hBa := Lib.hid (below_only (hB.out.alloc hbs (.cells zGra tGra)) hga (by simp; omega) hbs); have hqa := (hq.out.alloc (.cells zGra tGra)).grown hga (fun e => by have := Option.some.inj e; omega); have hza := Lib.hid ((hzz.out.alloc (.cells zGra tGra)).grown hga (fun e => by have := Option.some.inj e; omega)))
          | (refine wpList_load_blk rfl tGra _ rfl _ rfl hpas _ undGra rfl infoGra ?_)
          | (refine wpList_load_blk rfl 32 _ rfl _ rfl hqa _ Tryd.underlying32 rfl infoOrgB ?_)
          | (refine (hsa _).mono ?_; rintro e w2 ⟨rfl, hB2⟩; have hB3 := Lib.hid (hBa.out.then (Nat.le_refl _) hB2); have hz2 := hza.out.later hB2; have hpas2 := hpas.later hB2; have hco2 := hco.out w2 hB3.out)
          | (refine wpList_load_blk rfl tGra _ rfl _ rfl hpas2 _ undGra rfl infoGra ?_)
          | (refine hco2.mono ?_; rintro e w4 ⟨g', hgd, rfl, ht1, ht2, hb1, hb2, hB4⟩; have hz4 := hz2.later hB4; have hB5 := hB3.out.then (Nat.le_refl _) hB4; have hsz5 := hB3.out.size; have hK := Lib.hid (⟨hgd, ht1, ht2, hb1, hb2⟩ : _ ∧ _ ∧ _ ∧ _ ∧ _); clear hgd ht1 ht2 hb1 hb2)
          | (refine wpList_store_blk rfl tGra _ _ rfl _ rfl hz4 g'.arr rfl rfl infoGra (gra_one g') ?_; intro w6 hb6 hg6))
        obtain ⟨hgd, ht1, ht2, hb1, hb2⟩ := hK.out
        have hB6 := below_only hB5 hg6 hB5.size (Nat.le_succ _)
        have ho6 : Only (fun i => i = w.heap.size + 1) w4 w6 := Only.of_grown hg6 (fun i e => (Option.some.inj e).symm)
        have hs6 := ho6.size
        have hz2l := hz2.lt
        refine bodyPost_ret (v := .tuple #[.agg g'.arr, .bool true]) ?_ rfl ?_
        · exact results_cell2 8 tGra 9 (w.heap.size + 1) Tryd.results22 rfl rfl (loadG_blk hb6 undGra rfl infoGra)
        · rw [hy'.out]
          exact ⟨g', ⟨hgd, ht1.kept ho6 (fun _ y hy e => by have := (hb1 y hy).1; omega), ht2.kept ho6 (fun _ y hy e => by have := (hb2 y hy).1; omega), fun y hy => by have := hb1 y hy; omega, fun y hy => by have := hb2 y hy; omega⟩, rfl, hB6⟩
    · obtain rfl : Gs.length = k := by omega
      have hnn := Lib.hid (show bankGet o p r (Gs.map Gra.d) = none by have := hN.out; rw [List.take_length] at this; exact get_none this)
      have hzo := hzz.out
      go_wp2_with (refine wpList_store_blk rfl tGra _ _ rfl _ rfl hzo zGra rfl rfl infoGra (by simp [Value.oneCell']) ?_; intro w6 hb6 hg6)
      have hB6 := below_only hB.out hg6 hB.out.size (Nat.le_succ _)
      refine bodyPost_ret (v := .tuple #[.agg zGra, .bool false]) ?_ rfl ?_
      · exact results_cell2 8 tGra 9 (w.heap.size + 1) Tryd.results22 rfl rfl (loadG_blk hb6 undGra rfl infoGra)
      · rw [hnn.out]
        exact ⟨_, got_zero _ _, rfl, hB6⟩
end Go.Proofs.YtchgpdgigpaloaaDoor
