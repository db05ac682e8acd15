/- The bank: Space, both sides; the program's Find. -/
import Derived.Test.YtchgpdgigpaloaaDoorBankK
namespace Go.Proofs.YtchgpdgigpaloaaDoor
set_option linter.unusedSimpArgs false
open Go.RowKit Go.Deep
/-- texts that lie in a row of texts, or that lay there from the beginning -/
def TxtK (W w : World) (a : Option Addr) (ss : List ByteArray) : Prop := StrAt w a ss ∧ (ss ≠ [] → ∀ x, a = some x → x.block < W.heap.size ∨ ∃ cur fz, w.heap[x.block]? = some (.cells cur 9 fz))
theorem TxtK.later {W w w' : World} {a : Option Addr} {ss : List ByteArray} (h : TxtK W w a ss) (hb : Below w.heap.size w w') : TxtK W w' a ss :=
  ⟨h.1.later hb, fun hn x hx => by
    rcases h.2 hn x hx with h1 | ⟨cur, fz, h1⟩
    · exact .inl h1
    · exact .inr ⟨cur, fz, (hb.block _ (Array.getElem?_eq_some_iff.1 h1).1).trans h1⟩⟩
theorem TxtK.stays {W w w' : World} {a : Option Addr} {ss : List ByteArray} {S : Nat → Prop} (h : TxtK W w a ss) (ho : OnlyT S w w') (hS : ∀ i, S i → W.heap.size ≤ i) : TxtK W w' a ss := by
  cases ss with
  | nil => exact ⟨StrAt.nil _ _, fun hn => absurd rfl hn⟩
  | cons s r =>
    have hne : ∀ x, a = some x → ¬ (S x.block ∧ noTxt w x.block) := fun x hx e => by
      rcases h.2 (by simp) x hx with h1 | ⟨cur, fz, h1⟩
      · have := hS _ e.1; omega
      · exact e.2 cur fz h1
    refine ⟨strAt_only h.1 ho hne, fun hn x hx => ?_⟩
    rcases h.2 hn x hx with h1 | ⟨cur, fz, h1⟩
    · exact .inl h1
    · exact .inr ⟨cur, fz, ho.heap h1 (hne x hx)⟩
theorem TxtK.of_txt {W w : World} {a : Option Addr} {ss : List ByteArray} (h : TxtAt w a ss) : TxtK W w a ss := ⟨h.1, fun hn x hx => .inr (h.2 hn x hx)⟩
/-- texts in a row that was made since, or as they lay -/
def SpacePost (a0 : Option Addr) (l : List ByteArray) (w : World) (e : Ending) (w' : World) : Prop :=
  (∃ a c, e = .returned (.slice a l.length c) ∧ TxtAt w' a l ∧ (a = a0 ∨ ∀ x, a = some x → w.heap.size ≤ x.block ∧ x.block < w'.heap.size)) ∧ Below w.heap.size w w'
theorem txt_one (w : World) (s : ByteArray) : TxtAt (w.alloc (.cells #[.string s] 9)) (some ⟨w.heap.size, 0, none⟩) [s] :=
  ⟨fun i hi => by
    have hi' : i < 1 := hi
    obtain rfl : i = 0 := by omega
    exact ⟨w.heap.size, 0, rfl, (Blk.new w #[.string s] 9).cell 0 rfl⟩,
   fun _ x hx => by cases hx; exact ⟨_, _, heap_alloc_new w _⟩⟩
theorem space_one (a0 : Option Addr) (w w1 : World) (s : ByteArray) (b : Nat) (hb : b = w1.heap.size) (h : Below w.heap.size w w1) : SpacePost a0 [s] w (.returned (.slice (some ⟨b, 0, none⟩) 1 1)) (w1.alloc (.cells #[.string s] 9)) := by
  subst hb
  exact ⟨⟨_, _, rfl, txt_one w1 s, .inr (fun x hx => by cases hx; exact ⟨h.size, by simp⟩)⟩, h.alloc h.size _⟩
set_option maxRecDepth 100000 in
set_option maxHeartbeats 2000000 in
theorem bankSpace (a : AskV) (p : Bool) (path : ByteArray) (w : World) (hT : StrAt w a.addr a.d.domain) (hl : a.d.domain.length ≤ 100000) (hs : path.size ≤ reachBytes) :
    Calls Tryd.prog 27 #[.agg a.arr, .bool p, .string path] w (SpacePost none (spaceL a.d p (dirOf path)) w) := by
  obtain ⟨⟨sc, realm, nonce, opq, sess, qop, stale, dom⟩, ad, cp⟩ := a
  simp only at hT hl ⊢
  have hal := (Below.refl w.heap.size w).alloc (Nat.le_refl _) (.cells #[.int .i64 sc, .string realm, .string nonce, .string opq, .bool sess, .string qop, .bool stale, .slice ad dom.length cp] 37)
  have halH := Lib.hid hal
  by_cases h1 : p = true ∨ (sc ≠ 1 ∧ dom = [])
  · have he : spaceL ⟨sc, realm, nonce, opq, sess, qop, stale, dom⟩ p (dirOf path) = [⟨#[47]⟩] := by
      unfold spaceL
      rw [if_pos]
      rcases h1 with h | ⟨h, h2⟩
      · simp [h]
      · simp [h, h2]
    rw [he]
    clear he hT
    rcases h1 with rfl | ⟨h, rfl⟩
    · go_enter Tryd.func27, Tryd.ntmps27
      go_wp2
      go_ret
      exact space_one _ _ _ _ _ (by simp) halH.out
    · have h2 : (sc != 1) = true := by simpa using h
      cases p
      all_goals
        go_enter Tryd.func27, Tryd.ntmps27
        go_wp2
        go_ret
        exact space_one _ _ _ _ _ (by simp) halH.out
  · have hp : p = false := by cases p <;> simp_all
    subst hp
    by_cases h3 : sc = 1
    · subst h3
      have he : spaceL ⟨1, realm, nonce, opq, sess, qop, stale, dom⟩ false (dirOf path) = [dirOf path] := by
        unfold spaceL
        simp
      rw [he]
      clear he hT
      have hd := fun w => urlDir path w hs
      go_enter Tryd.func27, Tryd.ntmps27
      go_wp2_with fail
      refine (hd _).mono ?_
      rintro e w' ⟨rfl, rfl⟩
      go_wp2
      go_ret
      exact space_one _ _ _ _ _ (by simp) halH.out
    · have hn : dom ≠ [] := fun e => h1 (.inr ⟨h3, e⟩)
      have he : spaceL ⟨sc, realm, nonce, opq, sess, qop, stale, dom⟩ false (dirOf path) = dom := by
        unfold spaceL
        have e1 : dom.isEmpty = false := by cases dom <;> simp_all
        have e2 : (sc == 1) = false := by simpa using h3
        simp [e1, e2]
      rw [he]
      have h4 : (sc != 1) = true := by simpa using h3
      have h5 : (sc == 1) = false := by simpa using h3
      have h6 : ((dom.length : Int) == 0) = false := by
        have := List.length_pos_iff.2 hn
        simp; omega
      have hcl := cloneS ad cp dom _ (hT.later hal) (by omega)
      clear he hT hal
      go_enter Tryd.func27, Tryd.ntmps27
      go_wp2_with fail
      refine hcl.mono ?_
      rintro e w2 ⟨v2, rfl, hO2, hB2⟩
      obtain ⟨a2, c2, rfl, _⟩ := OwnStr.shape hO2
      have hO2h := Lib.hid hO2
      have hB2h := Lib.hid (halH.out.then (Nat.le_refl _) hB2)
      clear hO2 hB2 hcl
      go_wp2
      go_ret
      exact ⟨⟨_, _, rfl, hO2h.out.txt, .inr (fun x hx => by have := OwnStr.lies hO2h.out x hx; have := halH.out.size; exact ⟨by omega, by omega⟩)⟩, hB2h.out⟩
/-- the reference's: texts as they lay, or in a row that was made since -/
def SpaceK (W : World) (a0 : Option Addr) (l : List ByteArray) (w : World) (e : Ending) (w' : World) : Prop :=
  (∃ a c, e = .returned (.slice a l.length c) ∧ TxtK W w' a l ∧ (a = a0 ∨ ∀ x, a = some x → w.heap.size ≤ x.block ∧ x.block < w'.heap.size)) ∧ Below w.heap.size w w'
theorem SpacePost.k {W : World} {a0 : Option Addr} {l : List ByteArray} {w w' : World} {e : Ending} (h : SpacePost a0 l w e w') : SpaceK W a0 l w e w' := by
  obtain ⟨⟨a, c, h1, h2, h3⟩, h4⟩ := h
  exact ⟨⟨a, c, h1, .of_txt h2, h3⟩, h4⟩
set_option maxRecDepth 100000 in
set_option maxHeartbeats 2000000 in
theorem refSpace (W : World) (a : AskV) (p : Bool) (path : ByteArray) (w : World) (hT : TxtK W w a.addr a.d.domain) (hl : a.d.domain.length ≤ 100000) (hs : path.size ≤ reachBytes) :
    Calls Tryd.prog 28 #[.agg a.arr, .bool p, .string path] w (SpaceK W a.addr (spaceL a.d p (dirOf path)) w) := by
  obtain ⟨⟨sc, realm, nonce, opq, sess, qop, stale, dom⟩, ad, cp⟩ := a
  simp only at hT hl ⊢
  have hal := (Below.refl w.heap.size w).alloc (Nat.le_refl _) (.cells #[.int .i64 sc, .string realm, .string nonce, .string opq, .bool sess, .string qop, .bool stale, .slice ad dom.length cp] 37)
  have halH := Lib.hid hal
  have hTH := Lib.hid (hT.later hal)
  clear hT hal
  cases p
  · by_cases h3 : sc = 1
    · subst h3
      have he : spaceL ⟨1, realm, nonce, opq, sess, qop, stale, dom⟩ false (dirOf path) = [dirOf path] := by
        unfold spaceL
        simp
      rw [he]
      clear he
      have hd := fun w => refDir path w hs
      go_enter Tryd.func28, Tryd.ntmps28
      go_wp2_with fail
      refine (hd _).mono ?_
      rintro e w' ⟨rfl, rfl⟩
      go_wp2
      go_ret
      exact (space_one _ _ _ _ _ (by simp) halH.out).k
    · have h5 : (sc == 1) = false := by simpa using h3
      by_cases hn : dom = []
      · subst hn
        have he : spaceL ⟨sc, realm, nonce, opq, sess, qop, stale, []⟩ false (dirOf path) = [⟨#[47]⟩] := by
          unfold spaceL
          simp [h3]
        rw [he]
        clear he
        go_enter Tryd.func28, Tryd.ntmps28
        go_wp2
        go_ret
        exact (space_one _ _ _ _ _ (by simp) halH.out).k
      · have he : spaceL ⟨sc, realm, nonce, opq, sess, qop, stale, dom⟩ false (dirOf path) = dom := by
          unfold spaceL
          have e1 : dom.isEmpty = false := by cases dom <;> simp_all
          simp [e1, h5]
        rw [he]
        have h6 : ((dom.length : Int) > 0) := by
          have := List.length_pos_iff.2 hn
          omega
        clear he hn
        go_enter Tryd.func28, Tryd.ntmps28
        go_wp2
        go_ret
        exact ⟨⟨_, _, rfl, hTH.out, .inl rfl⟩, halH.out⟩
  · have he : spaceL ⟨sc, realm, nonce, opq, sess, qop, stale, dom⟩ true (dirOf path) = [⟨#[47]⟩] := by
      unfold spaceL
      simp
    rw [he]
    clear he
    go_enter Tryd.func28, Tryd.ntmps28
    go_wp2
    go_ret
    exact (space_one _ _ _ _ _ (by simp) halH.out).k
/-- the grant that counts -/
def bankFound (o : Org) (p : Bool) (path : ByteArray) (gs : List GraD) : Option GraD := if findB o p path gs < 0 then none else gs[(findB o p path gs).toNat]?
set_option maxRecDepth 100000 in
set_option maxHeartbeats 4000000 in
theorem bankFindP (b : Nat) (S : Nat → Prop) (gs : List GraD) (ws : List WaiD) (o : Org) (p : Bool) (path : ByteArray) (w : World) (hB : BankR w b S gs ws) (hl : gs.length ≤ 100000) :
    Calls Tryd.prog 20 #[.pointer (some ⟨b, 0, none⟩), .agg (orgArr o), .bool p, .string path] w (GetPost (bankFound o p path gs) w) := by
  have hal : Below w.heap.size w ((w.alloc (.cells (orgArr o) 32)).alloc (.cells zGra tGra)) := ((Below.refl w.heap.size w).alloc (Nat.le_refl _) _).alloc (by simp) _
  have hq := (Blk.new w (orgArr o) 32).alloc (.cells zGra tGra)
  have hz := Blk.new (w.alloc (.cells (orgArr o) 32)) zGra tGra
  simp only [World.size_alloc] at hz
  have hBH := Lib.hid hB
  have hfiK := fun w5 h => bankFind b S gs ws o p path w5 h hl
  have hrg := findB_range o p path gs
  rcases hrg with hfb | ⟨hfb0, hfb1⟩
  · have hr : bankFound o p path gs = none := by unfold bankFound; rw [if_pos (by omega)]
    rw [hr]
    simp only [hfb] at hfiK
    clear hr
    go_enter Tryd.func20, Tryd.ntmps20
    go_upto_region 1 with (fail)
    generalize (w.alloc (.cells (orgArr o) 32)).alloc (.cells zGra tGra) = w5 at hal hq hz ⊢
    have hfi := hfiK w5 (hBH.out.later hal)
    have halH := Lib.hid hal
    clear hfiK hal
    go_wp2_with (refine wpList_load_blk rfl 32 _ rfl _ rfl hq _ Tryd.underlying32 rfl infoOrgB ?_)
    refine hfi.mono ?_
    rintro e w6 ⟨rfl, hB6⟩
    have hz6 := hz.later hB6
    have hB06 := Lib.hid (halH.out.then (Nat.le_refl _) hB6)
    clear hfi hz hq hB6
    go_wp2_with (refine wpList_store_blk rfl tGra _ _ rfl _ rfl hz6 zGra rfl rfl infoGra (by simp [Value.oneCell']) ?_; intro w7 hb7 hg7)
    have hB7 := below_only hB06.out hg7 hB06.out.size (Nat.le_succ _)
    refine bodyPost_ret (v := .tuple #[.agg zGra, .bool false]) ?_ rfl ?_
    · exact results_cell2 8 tGra 9 (w.heap.size + 1) Tryd.results20 rfl rfl (loadG_blk hb7 undGra rfl infoGra)
    · exact ⟨_, got_zero _ _, rfl, hB7⟩
  · obtain ⟨k, hk⟩ : ∃ k : Nat, findB o p path gs = (k : Int) := ⟨(findB o p path gs).toNat, by omega⟩
    have hlt : k < gs.length := by omega
    have hr : bankFound o p path gs = some gs[k] := by unfold bankFound; rw [if_neg (by omega), hk, Int.toNat_natCast, List.getElem?_eq_getElem hlt]
    rw [hr]
    simp only [hk] at hfiK
    clear hr hfb0 hfb1 hk
    have hok := hBH.out.okG _ (List.getElem_mem hlt)
    obtain ⟨vg, vw, Gs, Ws, hv, hO, _, _, _, hmap, _, hIn, _⟩ := hBH.out.box
    have hlG : Gs.length = gs.length := by rw [← hmap, List.length_map]
    have hltG : k < Gs.length := by omega
    obtain ⟨x, hx⟩ : ∃ x, Hid (x = Gs[k]) := ⟨_, Lib.hid rfl⟩
    have hxd : gs[k] = x.d := by rw [hx.out]; subst hmap; rw [List.getElem_map]
    rw [hxd] at hok ⊢
    obtain ⟨a1, cap1, rfl, hrow, _⟩ := OwnG.shape encGra_len hO
    have hrowH := Lib.hid hrow
    have hvH := Lib.hid hv
    have hinx : Hid (x.In w S) := Lib.hid (by rw [hx.out]; exact hIn _ (List.getElem_mem hltG))
    have hokH := Lib.hid hok
    obtain ⟨pb, po, hsh, hrgK⟩ : ∃ pb po, a1 = some ⟨pb, po, none⟩ ∧ Hid (∀ W, Below w.heap.size w W → W.rangeAt pb (po + k * 16) (encGra x)) := by
      obtain ⟨pb, po, e, _⟩ := hrow k hltG
      refine ⟨pb, po, e, Lib.hid (fun W hb => ?_)⟩
      obtain ⟨pb', po', e', hc⟩ := (hrow.later hb) k hltG
      rw [e] at e'
      cases e'
      rw [hx.out]
      exact hc
    subst hsh
    clear hxd hok hmap hIn hO hv hrow hB
    go_enter Tryd.func20, Tryd.ntmps20
    go_upto_region 1 with (fail)
    generalize (w.alloc (.cells (orgArr o) 32)).alloc (.cells zGra tGra) = w5 at hal hq hz ⊢
    have hfi := hfiK w5 (hBH.out.later hal)
    have halH := Lib.hid hal
    clear hfiK hal
    go_wp2_with (refine wpList_load_blk rfl 32 _ rfl _ rfl hq _ Tryd.underlying32 rfl infoOrgB ?_)
    refine hfi.mono ?_
    rintro e w6 ⟨rfl, hB6⟩
    have hz6 := Lib.hid (hz.later hB6)
    have hB06 := Lib.hid (halH.out.then (Nat.le_refl _) hB6)
    have c0 : _ = some (Value.slice (some ⟨pb, po, none⟩) Gs.length cap1) := (hvH.out.later hB06.out).cell 0 rfl
    have hrg := hrgK.out w6 hB06.out
    have hco := bankCopied x w6 (hinx.out.dom.1.later hB06.out) (hinx.out.pth.1.later hB06.out) (Nat.le_trans (show x.ask.d.domain.length ≤ 100000 from hokH.out.l1) (by decide)) (Nat.le_trans (show x.paths.length ≤ 100000 from hokH.out.l2) (by decide))
    clear hfi hz hq hB6
    go_wp2_with (refine wpList_load_mid rfl tGra _ rfl pb (po + k * 16) rfl (encGra x) _ hrg undGra rfl infoGra ?_)
    refine hco.mono ?_
    rintro e w8 ⟨g', hgd, rfl, ht1, ht2, hb1, hb2, hB8⟩
    have hz8 := hz6.out.later hB8
    have hB08 := Lib.hid (hB06.out.then (Nat.le_refl _) hB8)
    have hs6 := hB06.out.size
    have hzl := hz6.out.lt
    have hK := Lib.hid (⟨hgd, ht1, ht2, hb1, hb2⟩ : _ ∧ _ ∧ _ ∧ _ ∧ _)
    clear hgd ht1 ht2 hb1 hb2 hB8 hco hrg c0
    go_wp2_with (refine wpList_store_blk rfl tGra _ _ rfl _ rfl hz8 g'.arr rfl rfl infoGra (gra_one g') ?_; intro w9 hb9 hg9)
    obtain ⟨hgd, ht1, ht2, hb1, hb2⟩ := hK.out
    have hB9 := below_only hB08.out hg9 hB08.out.size (Nat.le_succ _)
    have ho9 : Only (fun i => i = w.heap.size + 1) w8 w9 := Only.of_grown hg9 (fun i e => (Option.some.inj e).symm)
    have hs9 := ho9.size
    refine bodyPost_ret (v := .tuple #[.agg g'.arr, .bool true]) ?_ rfl ?_
    · exact results_cell2 8 tGra 9 (w.heap.size + 1) Tryd.results20 rfl rfl (loadG_blk hb9 undGra rfl infoGra)
    · exact ⟨g', ⟨hgd, ht1.kept ho9 (fun _ y hy e => by have := (hb1 y hy).1; omega), ht2.kept ho9 (fun _ y hy e => by have := (hb2 y hy).1; omega), fun y hy => by have := hb1 y hy; omega, fun y hy => by have := hb2 y hy; omega⟩, rfl, hB9⟩
end Go.Proofs.YtchgpdgigpaloaaDoor
