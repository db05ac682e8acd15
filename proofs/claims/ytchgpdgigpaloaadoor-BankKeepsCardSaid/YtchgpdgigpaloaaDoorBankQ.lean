/- The two banks side by side: plain laws for BankKeeps and the world. -/
import Derived.Test.YtchgpdgigpaloaaDoorBankN
import Derived.Test.YtchgpdgigpaloaaDoorWant
import Derived.Test.YtchgpdgigpaloaaDoorBankK
namespace Go.Proofs.YtchgpdgigpaloaaDoor
set_option linter.unusedSimpArgs false
open Go.RowKit Go.Deep
theorem lastB_mem {α : Type} {n : Nat} {l : List α} {y : α} (h : y ∈ lastB n l) : y ∈ l := List.mem_of_mem_drop h
theorem lastB_map {α β : Type} (f : α → β) (n : Nat) (l : List α) : (lastB n l).map f = lastB n (l.map f) := by
  unfold lastB
  rw [List.map_drop, List.length_map]
theorem lastB_len {α : Type} (n : Nat) (l : List α) : (lastB n l).length ≤ n := by
  unfold lastB
  rw [List.length_drop]; omega
theorem drop_map (o : Org) (p : Bool) (r : ByteArray) (Gs : List Gra) : (Gs.filter (fun x => !keyG o p r x.d)).map Gra.d = bankDrop o p r (Gs.map Gra.d) := map_keep Gs
theorem put_map (g : Gra) (Gs : List Gra) : (lastB 8 (Gs.filter (fun x => !keyG g.orig g.proxy g.ask.d.realm x.d) ++ [g])).map Gra.d = bankPut g.d (Gs.map Gra.d) := by
  rw [lastB_map, List.map_append, drop_map]
  rfl
theorem put_all {P : Gra → Prop} {g : Gra} {f : Gra → Bool} {Gs : List Gra} (h : ∀ y ∈ Gs, P y) (hg : P g) : ∀ y ∈ lastB 8 (Gs.filter f ++ [g]), P y := by
  intro y hy
  rcases List.mem_append.1 (lastB_mem hy) with h1 | h1
  · exact h y (List.mem_filter.1 h1).1
  · rw [List.mem_singleton.1 h1]; exact hg
theorem takeW_map (o : Org) (p : Bool) (Ws : List Wai) : (Ws.filter (fun x => !keyW o p x.d)).map Wai.d = bankTake o p (Ws.map Wai.d) := map_keepW Ws
theorem asked_map (x : Wai) (Ws : List Wai) : (lastB 8 (Ws.filter (fun y => !keyW x.orig x.proxy y.d) ++ [x])).map Wai.d = bankAsked x.d (Ws.map Wai.d) := by
  rw [lastB_map, List.map_append, takeW_map]
  rfl
theorem asked_all {P : Wai → Prop} {g : Wai} {f : Wai → Bool} {Gs : List Wai} (h : ∀ y ∈ Gs, P y) (hg : P g) : ∀ y ∈ lastB 8 (Gs.filter f ++ [g]), P y := by
  intro y hy
  rcases List.mem_append.1 (lastB_mem hy) with h1 | h1
  · exact h y (List.mem_filter.1 h1).1
  · rw [List.mem_singleton.1 h1]; exact hg
theorem sweepG_map (o : Org) (Gs : List Gra) : (Gs.filter (fun x => !orgE x.orig o)).map Gra.d = bankSweepG o (Gs.map Gra.d) := map_keep (f := fun g => orgE g.orig o) Gs
theorem sweepW_map (o : Org) (Ws : List Wai) : ((Ws.filter (fun x => !keyW o false x.d)).filter (fun x => !keyW o true x.d)).map Wai.d = bankSweepW o (Ws.map Wai.d) := by
  rw [takeW_map, takeW_map, sweep_two]
theorem get_map (o : Org) (p : Bool) (r : ByteArray) (Gs : List Gra) : (Gs.find? (fun x => keyG o p r x.d)).map Gra.d = bankGet o p r (Gs.map Gra.d) := by
  unfold bankGet
  rw [List.find?_map]
  rfl
/-- the last one of an origin is the one that there is -/
theorem lastW_map (o : Org) (p : Bool) : ∀ (Ws : List Wai), OneW (Ws.map Wai.d) → (lastW o p Ws).map Wai.d = bankGot o p (Ws.map Wai.d) := by
  have key : ∀ (l : List Wai) (s : Option Wai), OneW (l.map Wai.d) → l.foldl (fun s x => if keyW o p x.d then some x else s) s = ((l.find? (fun x => keyW o p x.d)).or s) := by
    intro l
    induction l with
    | nil => intro s _; rfl
    | cons x r ih =>
      intro s h
      have h2 : OneW (r.map Wai.d) := (List.pairwise_cons.1 h).2
      rw [List.foldl_cons, ih _ h2, List.find?_cons]
      cases hk : keyW o p x.d
      · rfl
      · have hn : r.find? (fun x => keyW o p x.d) = none := by
          rw [List.find?_eq_none]
          intro y hy e
          have h3 := (List.pairwise_cons.1 h).1 y.d (List.mem_map_of_mem hy)
          have e1 := (keyW_iff _ _ _).1 hk
          have e2 := (keyW_iff _ _ _).1 e
          have : keyW x.d.orig x.d.proxy y.d = true := (keyW_iff _ _ _).2 ⟨e2.1.trans e1.1.symm, e2.2.trans e1.2.symm⟩
          rw [this] at h3
          cases h3
        rw [hn]
        rfl
  intro Ws h
  unfold lastW bankGot
  rw [key Ws none h, Option.or_none, List.find?_map]
  rfl
theorem lastW_mem {o : Org} {p : Bool} {Ws : List Wai} {x : Wai} (h : lastW o p Ws = some x) : x ∈ Ws := by
  have key : ∀ (l : List Wai) (s : Option Wai), l.foldl (fun s x => if keyW o p x.d then some x else s) s = some x → x ∈ l ∨ s = some x := by
    intro l
    induction l with
    | nil => intro s h; exact .inr h
    | cons y r ih =>
      intro s h
      rw [List.foldl_cons] at h
      rcases ih _ h with h1 | h1
      · exact .inl (List.mem_cons_of_mem _ h1)
      · split at h1
        · exact .inl (by rw [← Option.some.inj h1]; simp)
        · exact .inr h1
  rcases key Ws none h with h1 | h1
  · exact h1
  · cases h1
theorem use_map (o : Org) (p : Bool) (path : ByteArray) (Gs : List Gra) : (rbUse o p path Gs).1.map Gra.d = (bankUse o p path (Gs.map Gra.d)).1 ∧ (rbUse o p path Gs).2.1.d = (bankUse o p path (Gs.map Gra.d)).2.1 ∧ (rbUse o p path Gs).2.2 = (bankUse o p path (Gs.map Gra.d)).2.2 := by
  rcases findB_range o p path (Gs.map Gra.d) with h | ⟨h0, h1⟩
  · rw [rbUse_no (by omega), bankUse_no (by omega)]
    exact ⟨rfl, rfl, rfl⟩
  · obtain ⟨k, hk⟩ : ∃ k : Nat, findB o p path (Gs.map Gra.d) = (k : Int) := ⟨(findB o p path (Gs.map Gra.d)).toNat, by omega⟩
    have hlm : k < (Gs.map Gra.d).length := by omega
    have hlt : k < Gs.length := by rw [List.length_map] at hlm; exact hlm
    rw [rbUse_yes hk hlt, bankUse_yes hk hlm]
    have hg : (Gs.map Gra.d)[k] = Gs[k].d := List.getElem_map _
    rw [hg]
    have hl : (Gs.take k ++ Gs.drop (k + 1)).map Gra.d = (Gs.map Gra.d).take k ++ (Gs.map Gra.d).drop (k + 1) := by rw [List.map_append, List.map_take, List.map_drop]
    by_cases hc : 4294967295 ≤ Gs[k].count
    · rw [if_pos hc, if_pos hc]
      exact ⟨hl, rfl, rfl⟩
    · rw [if_neg hc, if_neg hc]
      exact ⟨by rw [List.map_append, hl]; rfl, rfl, rfl⟩
theorem use_len (o : Org) (p : Bool) (path : ByteArray) (Gs : List Gra) : (rbUse o p path Gs).1.length ≤ Gs.length := by
  rcases findB_range o p path (Gs.map Gra.d) with h | ⟨h0, h1⟩
  · rw [rbUse_no (by omega)]
    exact Nat.le_refl _
  · obtain ⟨k, hk⟩ : ∃ k : Nat, findB o p path (Gs.map Gra.d) = (k : Int) := ⟨(findB o p path (Gs.map Gra.d)).toNat, by omega⟩
    have hlt : k < Gs.length := by rw [List.length_map] at h1; omega
    rw [rbUse_yes hk hlt]
    split
    · simp only [List.length_append, List.length_take, List.length_drop]; omega
    · simp only [List.length_append, List.length_take, List.length_drop, List.length_cons, List.length_nil]; omega
theorem rgr_zero (W w : World) : RGr W w zeroGra := ⟨⟨StrAt.nil _ _, fun hn => absurd rfl hn⟩, ⟨StrAt.nil _ _, fun hn => absurd rfl hn⟩, ⟨by decide, by decide, fun x hx => (by cases hx), by decide, by decide⟩⟩
theorem rwr_zero (W w : World) : RWr W w zeroWai := ⟨⟨StrAt.nil _ _, fun hn => absurd rfl hn⟩, ⟨by decide⟩⟩
theorem use_all {W w : World} (o : Org) (p : Bool) (path : ByteArray) {Gs : List Gra} (h : ∀ y ∈ Gs, RGr W w y) : (∀ y ∈ (rbUse o p path Gs).1, RGr W w y) ∧ RGr W w (rbUse o p path Gs).2.1 := by
  rcases findB_range o p path (Gs.map Gra.d) with hf | ⟨h0, h1⟩
  · rw [rbUse_no (by omega)]
    exact ⟨h, rgr_zero _ _⟩
  · obtain ⟨k, hk⟩ : ∃ k : Nat, findB o p path (Gs.map Gra.d) = (k : Int) := ⟨(findB o p path (Gs.map Gra.d)).toNat, by omega⟩
    have hlt : k < Gs.length := by rw [List.length_map] at h1; omega
    rw [rbUse_yes hk hlt]
    have hL : ∀ y ∈ Gs.take k ++ Gs.drop (k + 1), RGr W w y := by
      intro y hy
      rcases List.mem_append.1 hy with e | e
      · exact h y (List.mem_of_mem_take e)
      · exact h y (List.mem_of_mem_drop e)
    have hx := h _ (List.getElem_mem hlt)
    by_cases hc : 4294967295 ≤ Gs[k].count
    · rw [if_pos hc]
      exact ⟨hL, rgr_zero _ _⟩
    · rw [if_neg hc]
      have hm : RGr W w Gs[k].more := ⟨hx.dom, hx.pth, ⟨hx.ok.l1, hx.ok.l2, hx.ok.sz, (by have : -9223372036854775808 ≤ Gs[k].d.count := hx.ok.c0; show -9223372036854775808 ≤ Gs[k].d.count + 1; omega), (by show Gs[k].count + 1 ≤ 9223372036854775807; omega)⟩⟩
      refine ⟨fun y hy => ?_, hm⟩
      rcases List.mem_append.1 hy with e | e
      · exact hL y e
      · rw [List.mem_singleton.1 e]; exact hm
theorem found_map (o : Org) (p : Bool) (path : ByteArray) (Gs : List Gra) {k : Nat} (hk : findB o p path (Gs.map Gra.d) = (k : Int)) (hlt : k < Gs.length) : bankFound o p path (Gs.map Gra.d) = some Gs[k].d := by
  unfold bankFound
  rw [hk, if_neg (by omega), Int.toNat_natCast, List.getElem?_eq_getElem (by rw [List.length_map]; exact hlt), List.getElem_map]
theorem found_none (o : Org) (p : Bool) (path : ByteArray) (Gs : List Gra) (hk : findB o p path (Gs.map Gra.d) < 0) : bankFound o p path (Gs.map Gra.d) = none := by
  unfold bankFound
  rw [if_pos hk]
theorem gra_eq {W : World} {b R : Nat} {wr w : World} {ga wa : Option Addr} {gc wc : Nat} {Gs : List Gra} {Ws : List Wai} {S S' : Nat → Prop} (h : KeepsB W b R wr (Gs.map Gra.d) (Ws.map Wai.d) ga gc Gs wa wc Ws S) (hb : Below wr.heap.size wr w) {a : Option Addr} {Hs : List Gra} (hr : RowAt 16 encGra w a Hs) (hm : Hs.map Gra.d = Gs.map Gra.d) (hin : ∀ g ∈ Hs, g.In w S') : GraEq w a ga Hs Gs := by
  refine ⟨hr, (h.later hb).ref.rg, hm, fun g hg => ?_, fun g hg => ((h.later hb).ref.tg g hg).tx⟩
  have hok : g.d.Ok := h.bank.okG _ (by rw [← hm]; exact List.mem_map_of_mem hg)
  exact ⟨(hin g hg).dom.1, (hin g hg).pth.1, hok.l1, hok.l2⟩
theorem wai_eq {W : World} {b R : Nat} {wr w : World} {ga wa : Option Addr} {gc wc : Nat} {Gs : List Gra} {Ws : List Wai} {S S' : Nat → Prop} (h : KeepsB W b R wr (Gs.map Gra.d) (Ws.map Wai.d) ga gc Gs wa wc Ws S) (hb : Below wr.heap.size wr w) {a : Option Addr} {Hs : List Wai} (hr : RowAt 13 encWai w a Hs) (hm : Hs.map Wai.d = Ws.map Wai.d) (hin : ∀ g ∈ Hs, g.In w S') : WaiEq w a wa Hs Ws := by
  refine ⟨hr, (h.later hb).ref.rw, hm, fun g hg => ?_, fun g hg => ((h.later hb).ref.tw g hg).tx⟩
  have hok : g.d.Ok := h.bank.okW _ (by rw [← hm]; exact List.mem_map_of_mem hg)
  exact ⟨(hin g hg).dom.1, hok.l1⟩
/-- a grant that was got, as one that is compared -/
theorem got_tx {g : GraD} {w w' : World} {g' : Gra} (h : GotG g w w' g') (hok : g.Ok) : g'.Tx w' := by
  obtain ⟨h1, h2, h3, _, _⟩ := h
  subst h1
  exact ⟨h2.1, h3.1, hok.l1, hok.l2⟩
theorem got_tx2 {g : GraD} {w w' w1 w2 : World} {g' : Gra} {S : Nat → Prop} (h : GotG g w w' g') (hok : g.Ok) (hb : Below w'.heap.size w' w1) (ho : OnlyT S w1 w2) : g'.Tx w2 := by
  obtain ⟨h1, h2, h3, _, _⟩ := h
  subst h1
  exact ⟨((h2.later hb).stays ho).1, ((h3.later hb).stays ho).1, hok.l1, hok.l2⟩
theorem gra_ok_zero : graZero.Ok := ⟨by decide, by decide, fun x hx => (by cases hx), by decide, by decide⟩
theorem KeepsB.start (W : World) : KeepsB W W.heap.size (W.heap.size + 1) ((W.alloc (.cells #[.slice none 0 0, .slice none 0 0] tBank)).alloc (.cells #[.slice none 0 0, .slice none 0 0] 30)) ([].map Gra.d) ([].map Wai.d) none 0 [] none 0 [] (fun i => i = W.heap.size) := by
  refine ⟨((Below.refl _ _).alloc (Nat.le_refl _) _).alloc (by simp) _, ⟨⟨_, _, [], [], (Blk.new _ _ _).alloc _, OwnG.nil _ _, OwnG.nil _ _, (fun g hg => by cases hg), (fun g hg => by cases hg), rfl, rfl, (fun g hg => by cases hg), (fun g hg => by cases hg)⟩, rfl, (fun i hi => by rw [hi]; simp; omega), (fun g hg => by cases hg), (fun g hg => by cases hg)⟩, (fun i hi => by rw [hi]; exact Nat.le_refl _), ⟨RowAt.nil _ _, RowAt.nil _ _, Nat.le_refl _, (fun x hx => by cases hx), (fun x hx => by cases hx), (fun g hg => by cases hg), (fun g hg => by cases hg)⟩, ?_, (fun e => by omega), Nat.le_succ _, (fun x hx => by cases hx), (fun x hx => by cases hx)⟩
  have := Blk.new (W.alloc (.cells #[.slice none 0 0, .slice none 0 0] tBank)) #[.slice none 0 0, .slice none 0 0] 30
  rwa [World.size_alloc] at this
end Go.Proofs.YtchgpdgigpaloaaDoor
