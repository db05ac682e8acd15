/- The statements' sameGrant, sameWait, sameBank at what is alike. -/
import Derived.Test.YtchgpdgigpaloaaDoorRbB
import Derived.Test.YtchgpdgigpaloaaDoorBankL
import Derived.Test.YtchgpdgigpaloaaDoorSameA
namespace Go.Proofs.YtchgpdgigpaloaaDoor
set_option linter.unusedSimpArgs false
open Go.RowKit Go.Deep
theorem creds_eql (u ps : ByteArray) (w : World) : (binOp .eql 34 (.agg #[.string u, .string ps]) (.agg #[.string u, .string ps])).run Tryd.prog w = .ok (.bool true) w := by
  go_simp
theorem noGuardCreds : Tryd.prog.eqGuardType Tryd.prog.depth 34 = false := by kernel_rfl
theorem infoAskB : (Tryd.prog.info? 37).map (·.size) = some 8 := by kernel_rfl
theorem orgE_self (o : Org) : orgE o o = true := (orgE_iff o o).2 rfl
/-- a grant's texts -/
structure Gra.Tx (w : World) (g : Gra) : Prop where
  dom : StrAt w g.ask.addr g.ask.d.domain
  pth : StrAt w g.addr g.paths
  l1 : g.ask.d.domain.length ≤ 100000
  l2 : g.paths.length ≤ 100000
structure Wai.Tx (w : World) (g : Wai) : Prop where
  dom : StrAt w g.ask.addr g.ask.d.domain
  l1 : g.ask.d.domain.length ≤ 100000
theorem Gra.Tx.later {w w' : World} {g : Gra} (h : g.Tx w) (hb : Below w.heap.size w w') : g.Tx w' := ⟨h.dom.later hb, h.pth.later hb, h.l1, h.l2⟩
theorem Wai.Tx.later {w w' : World} {g : Wai} (h : g.Tx w) (hb : Below w.heap.size w w') : g.Tx w' := ⟨h.dom.later hb, h.l1⟩
theorem gra_ask {w : World} {q : Nat} {g : Gra} {T : TypeId} (h : Blk w q g.arr T) : w.rangeAt q 6 g.ask.arr.toList := fun j v hv => by
  match j, hv with
  | 0, hv => cases hv; exact h.cell 6 rfl
  | 1, hv => cases hv; exact h.cell 7 rfl
  | 2, hv => cases hv; exact h.cell 8 rfl
  | 3, hv => cases hv; exact h.cell 9 rfl
  | 4, hv => cases hv; exact h.cell 10 rfl
  | 5, hv => cases hv; exact h.cell 11 rfl
  | 6, hv => cases hv; exact h.cell 12 rfl
  | 7, hv => cases hv; exact h.cell 13 rfl
theorem wai_ask {w : World} {q : Nat} {g : Wai} {T : TypeId} (h : Blk w q g.arr T) : w.rangeAt q 5 g.ask.arr.toList := fun j v hv => by
  match j, hv with
  | 0, hv => cases hv; exact h.cell 5 rfl
  | 1, hv => cases hv; exact h.cell 6 rfl
  | 2, hv => cases hv; exact h.cell 7 rfl
  | 3, hv => cases hv; exact h.cell 8 rfl
  | 4, hv => cases hv; exact h.cell 9 rfl
  | 5, hv => cases hv; exact h.cell 10 rfl
  | 6, hv => cases hv; exact h.cell 11 rfl
  | 7, hv => cases hv; exact h.cell 12 rfl
set_option maxRecDepth 100000 in
set_option maxHeartbeats 4000000 in
theorem sameGrant_yes (g h : Gra) (w : World) (hd : g.d = h.d) (hg : g.Tx w) (hh : h.Tx w) :
    Calls Tryd.prog 9 #[.agg g.arr, .agg h.arr] w fun e w' => e = .returned (.bool true) ∧ Below w.heap.size w w' := by
  have hal : Below w.heap.size w ((w.alloc (.cells g.arr tGra)).alloc (.cells h.arr tGra)) := ((Below.refl w.heap.size w).alloc (Nat.le_refl _) _).alloc (by simp) _
  have hb1 := (Blk.new w g.arr tGra).alloc (.cells h.arr tGra)
  have hb2 := Blk.new (w.alloc (.cells g.arr tGra)) h.arr tGra
  simp only [World.size_alloc] at hb2
  obtain ⟨o, p, u, ps, ⟨ad, aa, ac⟩, n, pt, ga, gc⟩ := g
  obtain ⟨o', p', u', ps', ⟨ad', aa', ac'⟩, n', pt', ga', gc'⟩ := h
  simp only [Gra.d, GraD.mk.injEq] at hd
  obtain ⟨rfl, rfl, rfl, rfl, rfl, rfl, rfl⟩ := hd
  have h1 := fun w => org_eql o o w
  simp only [orgE_self] at h1
  have h2 := fun w => creds_eql u ps w
  have hsa := fun w1 ha hb => sameAsk_yes ⟨ad, aa, ac⟩ ⟨ad, aa', ac'⟩ w1 rfl ha hb (Nat.le_trans hg.l1 (by decide))
  have hst := fun w1 ha hb => sameTexts_yes ga ga' gc gc' pt w1 ha hb (Nat.le_trans hg.l2 (by decide))
  go_enter Tryd.func9, Tryd.ntmps9
  go_upto_region 1 with (fail)
  have hbH1 := Lib.hid hb1
  have hbH2 := Lib.hid hb2
  clear hb1 hb2
  generalize hW : (w.alloc (.cells _ tGra)).alloc (.cells _ tGra) = w2 at hal hbH1 hbH2 ⊢
  clear hW
  have halH := Lib.hid hal
  have hg2 := Lib.hid (hg.later hal)
  have hh2 := Lib.hid (hh.later hal)
  have hsa2 := hsa w2 hg2.out.dom hh2.out.dom
  have a0 : _ = some (Value.bool o.sec) := hbH1.out.cell 0 rfl
  have a1 : _ = some (Value.string o.host) := hbH1.out.cell 1 rfl
  have a2 : _ = some (Value.int .i64 o.port) := hbH1.out.cell 2 rfl
  have a3 : _ = some (Value.bool p) := hbH1.out.cell 3 rfl
  have a4 : _ = some (Value.string u) := hbH1.out.cell 4 rfl
  have a5 : _ = some (Value.string ps) := hbH1.out.cell 5 rfl
  have d0 : _ = some (Value.bool o.sec) := hbH2.out.cell 0 rfl
  have d1 : _ = some (Value.string o.host) := hbH2.out.cell 1 rfl
  have d2 : _ = some (Value.int .i64 o.port) := hbH2.out.cell 2 rfl
  have d3 : _ = some (Value.bool p) := hbH2.out.cell 3 rfl
  have d4 : _ = some (Value.string u) := hbH2.out.cell 4 rfl
  have d5 : _ = some (Value.string ps) := hbH2.out.cell 5 rfl
  have a6 : _ = some (Value.int .i64 ad.scheme) := hbH1.out.cell 6 rfl
  have a7 : _ = some (Value.string ad.realm) := hbH1.out.cell 7 rfl
  have a8 : _ = some (Value.string ad.nonce) := hbH1.out.cell 8 rfl
  have a9 : _ = some (Value.string ad.opaque_) := hbH1.out.cell 9 rfl
  have a10 : _ = some (Value.bool ad.sess) := hbH1.out.cell 10 rfl
  have a11 : _ = some (Value.string ad.qop) := hbH1.out.cell 11 rfl
  have a12 : _ = some (Value.bool ad.stale) := hbH1.out.cell 12 rfl
  have a13 : _ = some (Value.slice aa ad.domain.length ac) := hbH1.out.cell 13 rfl
  have d6 : _ = some (Value.int .i64 ad.scheme) := hbH2.out.cell 6 rfl
  have d7 : _ = some (Value.string ad.realm) := hbH2.out.cell 7 rfl
  have d8 : _ = some (Value.string ad.nonce) := hbH2.out.cell 8 rfl
  have d9 : _ = some (Value.string ad.opaque_) := hbH2.out.cell 9 rfl
  have d10 : _ = some (Value.bool ad.sess) := hbH2.out.cell 10 rfl
  have d11 : _ = some (Value.string ad.qop) := hbH2.out.cell 11 rfl
  have d12 : _ = some (Value.bool ad.stale) := hbH2.out.cell 12 rfl
  have d13 : _ = some (Value.slice aa' ad.domain.length ac') := hbH2.out.cell 13 rfl
  have hpp : (p == p) = true := by simp
  have hnn : (n == n) = true := by simp
  clear hsa hal hg hh
  go_wp2_with (first
    | ((with_reducible show wpList _ _ _ ({ dst := _, op := Op.binOp _ _ _ _ _, type := _, pos := _, after := _, guard := _ } :: _) _ _); refine wpList_eql_agg _ rfl .eql 32 32 _ _ rfl #[.bool o.sec, .string o.host, .int .i64 o.port] #[.bool o.sec, .string o.host, .int .i64 o.port] (by rfl) (by rfl) noGuardOrg _ (h1 _) ?_)
    | ((with_reducible show wpList _ _ _ ({ dst := _, op := Op.binOp _ _ _ _ _, type := _, pos := _, after := _, guard := _ } :: _) _ _); refine wpList_eql_agg _ rfl .eql 34 34 _ _ rfl #[.string u, .string ps] #[.string u, .string ps] (by rfl) (by rfl) noGuardCreds _ (h2 _) ?_)
    | (go_at_call 35; refine hsa2.mono ?_; rintro e w3 ⟨rfl, hB3⟩; have hB3H := Lib.hid (halH.out.then (Nat.le_refl _) hB3); have a14 : _ = some (Value.int .i64 n) := (hbH1.out.later hB3).cell 14 rfl; have a15 : _ = some (Value.slice ga pt.length gc) := (hbH1.out.later hB3).cell 15 rfl; have d14 : _ = some (Value.int .i64 n) := (hbH2.out.later hB3).cell 14 rfl; have d15 : _ = some (Value.slice ga' pt.length gc') := (hbH2.out.later hB3).cell 15 rfl; have hst3 := hst w3 (hg2.out.pth.later hB3) (hh2.out.pth.later hB3); clear hB3)
    | (go_at_call 26; refine hst3.mono ?_; rintro e w4 ⟨rfl, hB4⟩))
  go_ret
  exact ⟨rfl, hB3H.out.then (Nat.le_refl _) hB4⟩
set_option maxRecDepth 100000 in
set_option maxHeartbeats 4000000 in
theorem sameWait_yes (g h : Wai) (w : World) (hd : g.d = h.d) (hg : g.Tx w) (hh : h.Tx w) :
    Calls Tryd.prog 16 #[.agg g.arr, .agg h.arr] w fun e w' => e = .returned (.bool true) ∧ Below w.heap.size w w' := by
  have hal : Below w.heap.size w ((w.alloc (.cells g.arr tWai)).alloc (.cells h.arr tWaiR)) := ((Below.refl w.heap.size w).alloc (Nat.le_refl _) _).alloc (by simp) _
  have hb1 := (Blk.new w g.arr tWai).alloc (.cells h.arr tWaiR)
  have hb2 := Blk.new (w.alloc (.cells g.arr tWai)) h.arr tWaiR
  simp only [World.size_alloc] at hb2
  obtain ⟨o, p, u, ⟨ad, aa, ac⟩⟩ := g
  obtain ⟨o', p', u', ⟨ad', aa', ac'⟩⟩ := h
  simp only [Wai.d, WaiD.mk.injEq] at hd
  obtain ⟨rfl, rfl, rfl, rfl⟩ := hd
  have h1 := fun w => org_eql o o w
  simp only [orgE_self] at h1
  have hsa := fun w1 ha hb => sameAsk_yes ⟨ad, aa, ac⟩ ⟨ad, aa', ac'⟩ w1 rfl ha hb (Nat.le_trans hg.l1 (by decide))
  go_enter Tryd.func16, Tryd.ntmps16
  go_upto_region 1 with (fail)
  have hbH1 := Lib.hid hb1
  have hbH2 := Lib.hid hb2
  clear hb1 hb2
  generalize hW : (w.alloc (.cells _ tWai)).alloc (.cells _ tWaiR) = w2 at hal hbH1 hbH2 ⊢
  clear hW
  have halH := Lib.hid hal
  have hg2 := Lib.hid (hg.later hal)
  have hh2 := Lib.hid (hh.later hal)
  have hsa2 := hsa w2 hg2.out.dom hh2.out.dom
  have a0 : _ = some (Value.bool o.sec) := hbH1.out.cell 0 rfl
  have a1 : _ = some (Value.string o.host) := hbH1.out.cell 1 rfl
  have a2 : _ = some (Value.int .i64 o.port) := hbH1.out.cell 2 rfl
  have a3 : _ = some (Value.bool p) := hbH1.out.cell 3 rfl
  have a4 : _ = some (Value.string u) := hbH1.out.cell 4 rfl
  have d0 : _ = some (Value.bool o.sec) := hbH2.out.cell 0 rfl
  have d1 : _ = some (Value.string o.host) := hbH2.out.cell 1 rfl
  have d2 : _ = some (Value.int .i64 o.port) := hbH2.out.cell 2 rfl
  have d3 : _ = some (Value.bool p) := hbH2.out.cell 3 rfl
  have d4 : _ = some (Value.string u) := hbH2.out.cell 4 rfl
  have a5 : _ = some (Value.int .i64 ad.scheme) := hbH1.out.cell 5 rfl
  have a6 : _ = some (Value.string ad.realm) := hbH1.out.cell 6 rfl
  have a7 : _ = some (Value.string ad.nonce) := hbH1.out.cell 7 rfl
  have a8 : _ = some (Value.string ad.opaque_) := hbH1.out.cell 8 rfl
  have a9 : _ = some (Value.bool ad.sess) := hbH1.out.cell 9 rfl
  have a10 : _ = some (Value.string ad.qop) := hbH1.out.cell 10 rfl
  have a11 : _ = some (Value.bool ad.stale) := hbH1.out.cell 11 rfl
  have a12 : _ = some (Value.slice aa ad.domain.length ac) := hbH1.out.cell 12 rfl
  have d5 : _ = some (Value.int .i64 ad.scheme) := hbH2.out.cell 5 rfl
  have d6 : _ = some (Value.string ad.realm) := hbH2.out.cell 6 rfl
  have d7 : _ = some (Value.string ad.nonce) := hbH2.out.cell 7 rfl
  have d8 : _ = some (Value.string ad.opaque_) := hbH2.out.cell 8 rfl
  have d9 : _ = some (Value.bool ad.sess) := hbH2.out.cell 9 rfl
  have d10 : _ = some (Value.string ad.qop) := hbH2.out.cell 10 rfl
  have d11 : _ = some (Value.bool ad.stale) := hbH2.out.cell 11 rfl
  have d12 : _ = some (Value.slice aa' ad.domain.length ac') := hbH2.out.cell 12 rfl
  have hpp : (p == p) = true := by simp
  have huu : (u.toList == u.toList) = true := by simp
  clear hsa hal hg hh
  go_wp2_with (first
    | ((with_reducible show wpList _ _ _ ({ dst := _, op := Op.binOp _ _ _ _ _, type := _, pos := _, after := _, guard := _ } :: _) _ _); refine wpList_eql_agg _ rfl .eql 32 32 _ _ rfl #[.bool o.sec, .string o.host, .int .i64 o.port] #[.bool o.sec, .string o.host, .int .i64 o.port] (by rfl) (by rfl) noGuardOrg _ (h1 _) ?_)
    | (go_at_call 35; refine hsa2.mono ?_; rintro e w3 ⟨rfl, hB3⟩))
  go_ret
  exact ⟨rfl, halH.out.then (Nat.le_refl _) hB3⟩
/-- two lists of grants that are alike, in memory -/
structure GraEq (w : World) (a b : Option Addr) (Gs Hs : List Gra) : Prop where
  ra : RowAt 16 encGra w a Gs
  rb : RowAt 16 encGra w b Hs
  eq : Gs.map Gra.d = Hs.map Gra.d
  ta : ∀ g ∈ Gs, g.Tx w
  tb : ∀ g ∈ Hs, g.Tx w
structure WaiEq (w : World) (a b : Option Addr) (Gs Hs : List Wai) : Prop where
  ra : RowAt 13 encWai w a Gs
  rb : RowAt 13 encWai w b Hs
  eq : Gs.map Wai.d = Hs.map Wai.d
  ta : ∀ g ∈ Gs, g.Tx w
  tb : ∀ g ∈ Hs, g.Tx w
theorem GraEq.later {w w' : World} {a b : Option Addr} {Gs Hs : List Gra} (h : GraEq w a b Gs Hs) (hb : Below w.heap.size w w') : GraEq w' a b Gs Hs := ⟨h.ra.later hb, h.rb.later hb, h.eq, fun g hg => (h.ta g hg).later hb, fun g hg => (h.tb g hg).later hb⟩
theorem WaiEq.later {w w' : World} {a b : Option Addr} {Gs Hs : List Wai} (h : WaiEq w a b Gs Hs) (hb : Below w.heap.size w w') : WaiEq w' a b Gs Hs := ⟨h.ra.later hb, h.rb.later hb, h.eq, fun g hg => (h.ta g hg).later hb, fun g hg => (h.tb g hg).later hb⟩
theorem GraEq.len {w : World} {a b : Option Addr} {Gs Hs : List Gra} (h : GraEq w a b Gs Hs) : Gs.length = Hs.length := by have := congrArg List.length h.eq; simpa using this
theorem WaiEq.len {w : World} {a b : Option Addr} {Gs Hs : List Wai} (h : WaiEq w a b Gs Hs) : Gs.length = Hs.length := by have := congrArg List.length h.eq; simpa using this
theorem map_at {α β : Type} {f : α → β} {l m : List α} (h : l.map f = m.map f) {k : Nat} (h1 : k < l.length) (h2 : k < m.length) : f l[k] = f m[k] := by
  have e : (l.map f)[k]'(by simpa using h1) = (m.map f)[k]'(by simpa using h2) := by congr 1
  simpa using e
set_option maxRecDepth 100000 in
set_option maxHeartbeats 4000000 in
theorem sameBank_yes (a ga b wa : Option Addr) (ca gc cb wc : Nat) (Gs Hs : List Gra) (Ws Vs : List Wai) (w : World) (hG : GraEq w a ga Gs Hs) (hW : WaiEq w b wa Ws Vs) (hl : Gs.length ≤ 100000) (hl2 : Ws.length ≤ 100000) :
    Calls Tryd.prog 23 #[.slice a Gs.length ca, .slice b Ws.length cb, .agg #[.slice ga Hs.length gc, .slice wa Vs.length wc]] w fun e w' => e = .returned (.bool true) ∧ Below w.heap.size w w' := by
  have hal : Below w.heap.size w (w.alloc (.cells #[.slice ga Hs.length gc, .slice wa Vs.length wc] 30)) := (Below.refl w.heap.size w).alloc (Nat.le_refl _) _
  have hbk := Blk.new w #[.slice ga Hs.length gc, .slice wa Vs.length wc] 30
  have e1 := hG.len
  have e2 := hW.len
  have n1 : ((Gs.length : Int) != (Hs.length : Int)) = false := by simp [e1]
  have n2 : ((Ws.length : Int) != (Vs.length : Int)) = false := by simp [e2]
  have hGH := Lib.hid hG
  have hWH := Lib.hid hW
  have e1H := Lib.hid e1
  have e2H := Lib.hid e2
  go_enter Tryd.func23, Tryd.ntmps23
  go_upto_region 1 with (fail)
  generalize w.alloc (.cells #[.slice ga Hs.length gc, .slice wa Vs.length wc] 30) = w2 at hal hbk ⊢
  have halH := Lib.hid hal
  have hbkH := Lib.hid hbk
  have c0 : _ = some (Value.slice ga Hs.length gc) := hbk.cell 0 rfl
  have c1 : _ = some (Value.slice wa Vs.length wc) := hbk.cell 1 rfl
  clear hG hW hal hbk e1 e2
  go_wp2
  go_loopw [7] (fun i wr => ∃ k : Nat, k ≤ Gs.length ∧ i = .int .i64 k ∧ Hid (Below w2.heap.size w2 wr)) (fun i _ => Gs.length - (intOf i).toNat)
  case atStart => exact ⟨0, Nat.zero_le _, rfl, Lib.hid (Below.refl _ _)⟩
  case round =>
    obtain ⟨k, hk, rfl, hBr⟩ := hrel
    have hBw := Lib.hid (halH.out.then (Nat.le_refl _) hBr.out)
    by_cases hlt : k < Gs.length
    · have hltH : k < Hs.length := by rw [← e1H.out]; exact hlt
      obtain ⟨b1, o1, rfl, hc⟩ := (hGH.out.ra.later hBw.out) k hlt
      obtain ⟨b2, o2, rfl, hd⟩ := (hGH.out.rb.later hBw.out) k hltH
      have hx1 : Hid (∀ W, Below wr.heap.size wr W → W.rangeAt b1 (o1 + k * 16) (encGra Gs[k])) := Lib.hid (fun W hb => by
        obtain ⟨b', o', e, h⟩ := (hGH.out.ra.later (hBw.out.then (Nat.le_refl _) hb)) k hlt
        cases e; exact h)
      have hy1 : Hid (∀ W, Below wr.heap.size wr W → W.rangeAt b2 (o2 + k * 16) (encGra Hs[k])) := Lib.hid (fun W hb => by
        obtain ⟨b', o', e, h⟩ := (hGH.out.rb.later (hBw.out.then (Nat.le_refl _) hb)) k hltH
        cases e; exact h)
      have hca := fun W (hb : Below wr.heap.size wr W) => sameGrant_yes Gs[k] Hs[k] W (map_at hGH.out.eq hlt hltH) ((hGH.out.ta _ (List.getElem_mem hlt)).later (hBw.out.then (Nat.le_refl _) hb)) ((hGH.out.tb _ (List.getElem_mem hltH)).later (hBw.out.then (Nat.le_refl _) hb))
      have hmk : ∀ W, Below wr.heap.size wr W → Below wr.heap.size wr W ∧ W.cell? ⟨w.heap.size, 0, none⟩ = some (.slice (some ⟨b2, o2, none⟩) Hs.length gc) := fun W hb => ⟨hb, ((hbkH.out.later hBr.out).later hb).cell 0 rfl⟩
      have hi0 : (0 : Int) ≤ (k : Int) := by omega
      have hi1 : (k : Int) < (Gs.length : Int) := by omega
      have hi2 : (k : Int) < (Hs.length : Int) := by omega
      clear hc hd
      generalize Gs[k] = x at hx1 hca
      generalize Hs[k] = y at hy1 hca
      go_upto_region 6 with (fail)
      refine wp_region_held_drew (S := fun w' => Below wr.heap.size wr w' ∧ w'.cell? ⟨w.heap.size, 0, none⟩ = some (.slice (some ⟨b2, o2, none⟩) Hs.length gc)) (by kernel_rfl) (by (try dsimp only); exact hmk _ (Below.refl _ _).drew) (fun hHeld => ?_)
      refine wpAnyH_take (i := 0) (v := ?_) rfl (by kernel_rfl) (by kernel_rfl) (by kernel_rfl) (fun _ _ _ h => h) (Or.inl ⟨by rfl, ?_⟩) (by assumption) ?_
      rotate_left
      · intro w hSw; (try dsimp only at hSw); go_simp; (try with_reducible rfl)
      (try simp only [List.getElem_toArray, List.getElem_cons_succ, List.getElem_cons_zero, Act.put, List.setIfInBounds_toArray, List.set_cons_zero, List.set_cons_succ])
      refine wpAnyH_take (i := 1) (v := ?_) rfl (by kernel_rfl) (by kernel_rfl) (by kernel_rfl) (fun _ _ _ h => h) (Or.inl ⟨by rfl, ?_⟩) (by assumption) ?_
      rotate_left
      · intro w hSw; (try dsimp only at hSw); go_simp; (try with_reducible rfl)
      (try simp only [List.getElem_toArray, List.getElem_cons_succ, List.getElem_cons_zero, Act.put, List.setIfInBounds_toArray, List.set_cons_zero, List.set_cons_succ])
      refine wpAnyH_take (i := 2) (v := ?_) rfl (by kernel_rfl) (by kernel_rfl) (by kernel_rfl) (fun _ _ _ h => h) (Or.inl ⟨by rfl, ?_⟩) (by assumption) ?_
      rotate_left
      · intro w hSw; (try dsimp only at hSw); go_simp; (try with_reducible rfl)
      (try simp only [List.getElem_toArray, List.getElem_cons_succ, List.getElem_cons_zero, Act.put, List.setIfInBounds_toArray, List.set_cons_zero, List.set_cons_succ])
      refine wpAnyH_take (i := 3) (v := .agg x.arr) rfl (by kernel_rfl) (by kernel_rfl) (by kernel_rfl) (fun _ _ _ h => h) (yieldsIf_load_mid (by rfl) tGra _ rfl b1 (o1 + k * 16) (by rfl) (encGra x) _ (fun w h => hx1.out w h.1) undGra rfl infoGra) (by assumption) ?_
      (try simp only [List.getElem_toArray, List.getElem_cons_succ, List.getElem_cons_zero, Act.put, List.setIfInBounds_toArray, List.set_cons_zero, List.set_cons_succ])
      refine wpAnyH_take (i := 4) (v := ?_) rfl (by kernel_rfl) (by kernel_rfl) (by kernel_rfl) (fun _ _ _ h => h) (Or.inl ⟨by rfl, ?_⟩) (by assumption) ?_
      rotate_left
      · intro w hSw; (try dsimp only at hSw); go_simp; (try with_reducible rfl)
      (try simp only [List.getElem_toArray, List.getElem_cons_succ, List.getElem_cons_zero, Act.put, List.setIfInBounds_toArray, List.set_cons_zero, List.set_cons_succ])
      refine wpAnyH_take (i := 5) (v := ?_) rfl (by kernel_rfl) (by kernel_rfl) (by kernel_rfl) (fun _ _ _ h => h) (Or.inl ⟨by rfl, ?_⟩) (by assumption) ?_
      rotate_left
      · intro w hSw; (try dsimp only at hSw); go_simp; (try with_reducible rfl)
      (try simp only [List.getElem_toArray, List.getElem_cons_succ, List.getElem_cons_zero, Act.put, List.setIfInBounds_toArray, List.set_cons_zero, List.set_cons_succ])
      refine wpAnyH_take (i := 6) (v := ?_) rfl (by kernel_rfl) (by kernel_rfl) (by kernel_rfl) (fun _ _ _ h => h) (Or.inl ⟨by rfl, ?_⟩) (by assumption) ?_
      rotate_left
      · intro w hSw; (try dsimp only at hSw); go_simp; (try with_reducible rfl)
      (try simp only [List.getElem_toArray, List.getElem_cons_succ, List.getElem_cons_zero, Act.put, List.setIfInBounds_toArray, List.set_cons_zero, List.set_cons_succ])
      refine wpAnyH_take (i := 7) (v := ?_) rfl (by kernel_rfl) (by kernel_rfl) (by kernel_rfl) (fun _ _ _ h => h) (Or.inl ⟨by rfl, ?_⟩) (by assumption) ?_
      rotate_left
      · intro w hSw; (try dsimp only at hSw); go_simp; (try with_reducible rfl)
      (try simp only [List.getElem_toArray, List.getElem_cons_succ, List.getElem_cons_zero, Act.put, List.setIfInBounds_toArray, List.set_cons_zero, List.set_cons_succ])
      refine wpAnyH_take (i := 8) (v := .agg y.arr) rfl (by kernel_rfl) (by kernel_rfl) (by kernel_rfl) (fun _ _ _ h => h) (yieldsIf_load_mid (by rfl) tGra _ rfl b2 (o2 + k * 16) (by rfl) (encGra y) _ (fun w h => hy1.out w h.1) undGra rfl infoGra) (by assumption) ?_
      (try simp only [List.getElem_toArray, List.getElem_cons_succ, List.getElem_cons_zero, Act.put, List.setIfInBounds_toArray, List.set_cons_zero, List.set_cons_succ])
      refine wpAnyH_ready (rs := [9]) (by kernel_rfl) (by simp) ?_
      refine AllReadyH.cons rfl (fun K hK => ?_) AllReadyH.nil
      go_simp
      go_at_call 9
      refine (hca _ (Below.refl _ _).drew).mono ?_
      rintro e w5 ⟨rfl, hB5⟩
      have hB6 := ((Below.refl wr.heap.size wr).drew).then (Nat.le_refl _) hB5
      refine hK.out _ _ (by (try dsimp only); exact hmk _ hB6) (fun hHeld => ?_)
      clear hK K
      (try simp only [List.getElem_toArray, List.getElem_cons_succ, List.getElem_cons_zero, Act.put, List.setIfInBounds_toArray, List.set_cons_zero, List.set_cons_succ])
      refine wpAnyH_take (i := 10) (v := ?_) rfl (by kernel_rfl) (by kernel_rfl) (by kernel_rfl) (fun _ _ _ h => h) (Or.inl ⟨by rfl, ?_⟩) (by assumption) ?_
      rotate_left
      · intro w hSw; (try dsimp only at hSw); go_simp; (try with_reducible rfl)
      (try simp only [List.getElem_toArray, List.getElem_cons_succ, List.getElem_cons_zero, Act.put, List.setIfInBounds_toArray, List.set_cons_zero, List.set_cons_succ])
      refine wpAnyH_done (by kernel_rfl) ?_ _
      have hBf := Lib.hid (hBr.out.then (Nat.le_refl _) hB6)
      clear hB5 hB6 hca hmk
      go_wp2
      go_roundw
      case rel => exact ⟨k + 1, by omega, by go_num, hBf⟩
      case measure => simp [intOf]; omega
    · obtain rfl : Gs.length = k := by omega
      have c1r : _ = some (Value.slice wa Vs.length wc) := (hbkH.out.later hBr.out).cell 1 rfl
      obtain ⟨wo, hwo⟩ : ∃ x, x = wr := ⟨_, rfl⟩
      subst hwo
      go_wp2
      go_loopw [8] (fun i wr => ∃ k : Nat, k ≤ Ws.length ∧ i = .int .i64 k ∧ Hid (Below w2.heap.size w2 wr)) (fun i _ => Ws.length - (intOf i).toNat)
      case atStart => exact ⟨0, Nat.zero_le _, rfl, hBr⟩
      case round =>
        obtain ⟨k, hk, rfl, hBr2⟩ := hrel
        have hBw := Lib.hid (halH.out.then (Nat.le_refl _) hBr2.out)
        by_cases hlt : k < Ws.length
        · have hltH : k < Vs.length := by rw [← e2H.out]; exact hlt
          obtain ⟨b1, o1, rfl, hc⟩ := (hWH.out.ra.later hBw.out) k hlt
          obtain ⟨b2, o2, rfl, hd⟩ := (hWH.out.rb.later hBw.out) k hltH
          have hx1 : Hid (∀ W, Below wr.heap.size wr W → W.rangeAt b1 (o1 + k * 13) (encWai Ws[k])) := Lib.hid (fun W hb => by
            obtain ⟨b', o', e, h⟩ := (hWH.out.ra.later (hBw.out.then (Nat.le_refl _) hb)) k hlt
            cases e; exact h)
          have hy1 : Hid (∀ W, Below wr.heap.size wr W → W.rangeAt b2 (o2 + k * 13) (encWai Vs[k])) := Lib.hid (fun W hb => by
            obtain ⟨b', o', e, h⟩ := (hWH.out.rb.later (hBw.out.then (Nat.le_refl _) hb)) k hltH
            cases e; exact h)
          have hca := fun W (hb : Below wr.heap.size wr W) => sameWait_yes Ws[k] Vs[k] W (map_at hWH.out.eq hlt hltH) ((hWH.out.ta _ (List.getElem_mem hlt)).later (hBw.out.then (Nat.le_refl _) hb)) ((hWH.out.tb _ (List.getElem_mem hltH)).later (hBw.out.then (Nat.le_refl _) hb))
          have hmk : ∀ W, Below wr.heap.size wr W → Below wr.heap.size wr W ∧ W.cell? ⟨w.heap.size, 1, none⟩ = some (.slice (some ⟨b2, o2, none⟩) Vs.length wc) := fun W hb => ⟨hb, ((hbkH.out.later hBr2.out).later hb).cell 1 rfl⟩
          have hi0 : (0 : Int) ≤ (k : Int) := by omega
          have hi1 : (k : Int) < (Ws.length : Int) := by omega
          have hi2 : (k : Int) < (Vs.length : Int) := by omega
          clear hc hd
          generalize Ws[k] = x at hx1 hca
          generalize Vs[k] = y at hy1 hca
          go_upto_region 11 with (fail)
          refine wp_region_held_drew (S := fun w' => Below wr.heap.size wr w' ∧ w'.cell? ⟨w.heap.size, 1, none⟩ = some (.slice (some ⟨b2, o2, none⟩) Vs.length wc)) (by kernel_rfl) (by (try dsimp only); exact hmk _ (Below.refl _ _).drew) (fun hHeld => ?_)
          refine wpAnyH_take (i := 0) (v := ?_) rfl (by kernel_rfl) (by kernel_rfl) (by kernel_rfl) (fun _ _ _ h => h) (Or.inl ⟨by rfl, ?_⟩) (by assumption) ?_
          rotate_left
          · intro w hSw; (try dsimp only at hSw); go_simp; (try with_reducible rfl)
          (try simp only [List.getElem_toArray, List.getElem_cons_succ, List.getElem_cons_zero, Act.put, List.setIfInBounds_toArray, List.set_cons_zero, List.set_cons_succ])
          refine wpAnyH_take (i := 1) (v := ?_) rfl (by kernel_rfl) (by kernel_rfl) (by kernel_rfl) (fun _ _ _ h => h) (Or.inl ⟨by rfl, ?_⟩) (by assumption) ?_
          rotate_left
          · intro w hSw; (try dsimp only at hSw); go_simp; (try with_reducible rfl)
          (try simp only [List.getElem_toArray, List.getElem_cons_succ, List.getElem_cons_zero, Act.put, List.setIfInBounds_toArray, List.set_cons_zero, List.set_cons_succ])
          refine wpAnyH_take (i := 2) (v := ?_) rfl (by kernel_rfl) (by kernel_rfl) (by kernel_rfl) (fun _ _ _ h => h) (Or.inl ⟨by rfl, ?_⟩) (by assumption) ?_
          rotate_left
          · intro w hSw; (try dsimp only at hSw); go_simp; (try with_reducible rfl)
          (try simp only [List.getElem_toArray, List.getElem_cons_succ, List.getElem_cons_zero, Act.put, List.setIfInBounds_toArray, List.set_cons_zero, List.set_cons_succ])
          refine wpAnyH_take (i := 3) (v := .agg x.arr) rfl (by kernel_rfl) (by kernel_rfl) (by kernel_rfl) (fun _ _ _ h => h) (yieldsIf_load_mid (by rfl) tWai _ rfl b1 (o1 + k * 13) (by rfl) (encWai x) _ (fun w h => hx1.out w h.1) undWai rfl infoWai) (by assumption) ?_
          (try simp only [List.getElem_toArray, List.getElem_cons_succ, List.getElem_cons_zero, Act.put, List.setIfInBounds_toArray, List.set_cons_zero, List.set_cons_succ])
          refine wpAnyH_take (i := 4) (v := ?_) rfl (by kernel_rfl) (by kernel_rfl) (by kernel_rfl) (fun _ _ _ h => h) (Or.inl ⟨by rfl, ?_⟩) (by assumption) ?_
          rotate_left
          · intro w hSw; (try dsimp only at hSw); go_simp; (try with_reducible rfl)
          (try simp only [List.getElem_toArray, List.getElem_cons_succ, List.getElem_cons_zero, Act.put, List.setIfInBounds_toArray, List.set_cons_zero, List.set_cons_succ])
          refine wpAnyH_take (i := 5) (v := ?_) rfl (by kernel_rfl) (by kernel_rfl) (by kernel_rfl) (fun _ _ _ h => h) (Or.inl ⟨by rfl, ?_⟩) (by assumption) ?_
          rotate_left
          · intro w hSw; (try dsimp only at hSw); go_simp; (try with_reducible rfl)
          (try simp only [List.getElem_toArray, List.getElem_cons_succ, List.getElem_cons_zero, Act.put, List.setIfInBounds_toArray, List.set_cons_zero, List.set_cons_succ])
          refine wpAnyH_take (i := 6) (v := ?_) rfl (by kernel_rfl) (by kernel_rfl) (by kernel_rfl) (fun _ _ _ h => h) (Or.inl ⟨by rfl, ?_⟩) (by assumption) ?_
          rotate_left
          · intro w hSw; (try dsimp only at hSw); go_simp; (try with_reducible rfl)
          (try simp only [List.getElem_toArray, List.getElem_cons_succ, List.getElem_cons_zero, Act.put, List.setIfInBounds_toArray, List.set_cons_zero, List.set_cons_succ])
          refine wpAnyH_take (i := 7) (v := ?_) rfl (by kernel_rfl) (by kernel_rfl) (by kernel_rfl) (fun _ _ _ h => h) (Or.inl ⟨by rfl, ?_⟩) (by assumption) ?_
          rotate_left
          · intro w hSw; (try dsimp only at hSw); go_simp; (try with_reducible rfl)
          (try simp only [List.getElem_toArray, List.getElem_cons_succ, List.getElem_cons_zero, Act.put, List.setIfInBounds_toArray, List.set_cons_zero, List.set_cons_succ])
          refine wpAnyH_take (i := 8) (v := .agg y.arr) rfl (by kernel_rfl) (by kernel_rfl) (by kernel_rfl) (fun _ _ _ h => h) (yieldsIf_load_mid (by rfl) tWaiR _ rfl b2 (o2 + k * 13) (by rfl) (encWai y) _ (fun w h => hy1.out w h.1) undWaiR rfl infoWaiR) (by assumption) ?_
          (try simp only [List.getElem_toArray, List.getElem_cons_succ, List.getElem_cons_zero, Act.put, List.setIfInBounds_toArray, List.set_cons_zero, List.set_cons_succ])
          refine wpAnyH_ready (rs := [9]) (by kernel_rfl) (by simp) ?_
          refine AllReadyH.cons rfl (fun K hK => ?_) AllReadyH.nil
          go_simp
          go_at_call 16
          refine (hca _ (Below.refl _ _).drew).mono ?_
          rintro e w5 ⟨rfl, hB5⟩
          have hB6 := ((Below.refl wr.heap.size wr).drew).then (Nat.le_refl _) hB5
          refine hK.out _ _ (by (try dsimp only); exact hmk _ hB6) (fun hHeld => ?_)
          clear hK K
          (try simp only [List.getElem_toArray, List.getElem_cons_succ, List.getElem_cons_zero, Act.put, List.setIfInBounds_toArray, List.set_cons_zero, List.set_cons_succ])
          refine wpAnyH_take (i := 10) (v := ?_) rfl (by kernel_rfl) (by kernel_rfl) (by kernel_rfl) (fun _ _ _ h => h) (Or.inl ⟨by rfl, ?_⟩) (by assumption) ?_
          rotate_left
          · intro w hSw; (try dsimp only at hSw); go_simp; (try with_reducible rfl)
          (try simp only [List.getElem_toArray, List.getElem_cons_succ, List.getElem_cons_zero, Act.put, List.setIfInBounds_toArray, List.set_cons_zero, List.set_cons_succ])
          refine wpAnyH_done (by kernel_rfl) ?_ _
          have hBf := Lib.hid (hBr2.out.then (Nat.le_refl _) hB6)
          clear hB5 hB6 hca hmk
          go_wp2
          go_roundw
          case rel => exact ⟨k + 1, by omega, by go_num, hBf⟩
          case measure => simp [intOf]; omega
        · obtain rfl : Ws.length = k := by omega
          go_wp2
          go_ret
          exact ⟨rfl, hBw.out⟩
end Go.Proofs.YtchgpdgigpaloaaDoor
