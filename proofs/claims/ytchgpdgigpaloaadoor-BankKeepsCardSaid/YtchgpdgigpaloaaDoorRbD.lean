/- The reference's bank: Use. -/
import Derived.Test.YtchgpdgigpaloaaDoorRbC
import Derived.Test.YtchgpdgigpaloaaDoorRbB
import Derived.Test.YtchgpdgigpaloaaDoorRbG
import Derived.Test.YtchgpdgigpaloaaDoorBankK
namespace Go.Proofs.YtchgpdgigpaloaaDoor
set_option linter.unusedSimpArgs false
open Go.RowKit Go.Deep
section
variable {α : Type} {T : TypeId} {n : Nat} {enc : α → List Value}
/-- an append of rows that lie somewhere, in a drawn region -/
theorem step_append_rows {P : Program} {TS : TypeId} {z : Value} {bytes : Nat} (hinfo : (P.info? T).map (fun i => (i.zero, i.size, i.bytes)) = some (some z, n, bytes)) (hU : P.underlying TS = some (.slice T)) (hzs : z.cells.size = n) (h0 : 0 < n)
    (hlen : ∀ x, (enc x).length = n)
    {ops : Array Oper} {o : Oper} {a : Act} {K : Act → World → Prop} {Q : Exit → Act → World → Prop} {E : Prop} (hgd : o.guard = none) (s x : Operand)
    (ho : o.op = .call { callee := .builtin .append, args := #[s, x], argTypes := #[TS, TS] })
    (w : World) (base : Nat) (v : Value) (l : List α) (hs : a.eval s = v) (hown : OwnG T n enc w base v l) (m : List α) (hone : ∀ y ∈ m, ∀ u ∈ enc y, u.oneCell' = true)
    (b off k c : Nat) (hx : a.eval x = .slice (some ⟨b, off, none⟩) k c) (hk : k = m.length) (hm : RowAt n enc w (some ⟨b, off, none⟩) m) (hl : l.length + m.length ≤ maxLen) (hl' : (l.length + m.length) * bytes ≤ 140737488355328) (hbase : base ≤ w.heap.size)
    (h : ∀ v' w', OwnG T n enc w' base v' (l ++ m) → w.grownBy w' v.ownBlock → K (a.put o.dst v') w') :
    if Region.wanted o (yielded ops a.tmps) = true then Oper.wp P o a w K Q else E := by
  subst hk
  obtain ⟨i0, hi, hz0, hz1, hz2⟩ := info_parts hinfo
  have hw : Region.wanted o (yielded ops a.tmps) = true := by simp [Region.wanted, hgd]
  rw [if_pos hw]
  refine wp_append_own w s x TS ho base T i0 z n bytes hU hi hz0 hz1 hz2 hzs h0 v _ _ hs hown ⟨b, off, none⟩ m.length c (m.flatMap enc) hx (flat_len hlen _) ?_ ?_ hl hl' hbase ?_
  · intro t u hu
    have ht : t < m.length * n := by rw [← flat_len hlen]; exact (List.getElem?_eq_some_iff.1 hu).1
    have h1 : t / n < m.length := Nat.div_lt_of_lt_mul (by rw [Nat.mul_comm]; exact ht)
    have h2 : t % n < n := Nat.mod_lt _ h0
    have h3 : t = t / n * n + t % n := by rw [Nat.mul_comm]; exact (Nat.div_add_mod t n).symm
    rw [h3, flat_at hlen _ (t / n) (t % n) h1 h2] at hu
    obtain ⟨b', off', e, hc⟩ := hm (t / n) h1
    cases e
    have := hc (t % n) u hu
    rw [Addr.add_mid]
    rw [h3, ← Nat.add_assoc]
    exact this
  · intro u hu
    rw [List.mem_flatMap] at hu
    obtain ⟨y, hy, hu⟩ := hu
    exact hone y hy u hu
  · intro v' w' hown' hgrow _
    refine h v' w' ?_ hgrow
    unfold OwnG
    rw [List.length_append, List.flatMap_append]
    exact hown'
end
theorem rowAt_take {w : World} {ad : Option Addr} {Gs : List Gra} (h : RowAt 16 encGra w ad Gs) (k : Nat) : RowAt 16 encGra w ad (Gs.take k) := fun i hi => by
  have hi2 : i < k ∧ i < Gs.length := by rw [List.length_take] at hi; omega
  obtain ⟨b, off, e, hc⟩ := h i hi2.2
  exact ⟨b, off, e, by rw [List.getElem_take]; exact hc⟩
theorem rowAt_drop {w : World} {b off : Nat} {Gs : List Gra} (h : RowAt 16 encGra w (some ⟨b, off, none⟩) Gs) (k : Nat) (hk : k < Gs.length) : RowAt 16 encGra w (some ⟨b, off + (k + 1) * 16, none⟩) (Gs.drop (k + 1)) := fun i hi => by
  have hi2 : k + 1 + i < Gs.length := by rw [List.length_drop] at hi; omega
  obtain ⟨b', off', e, hc⟩ := h (k + 1 + i) hi2
  cases e
  refine ⟨b, off + (k + 1) * 16, rfl, fun j u hu => ?_⟩
  rw [List.getElem_drop] at hu
  have := hc j u hu
  rw [show off + (k + 1) * 16 + i * 16 + j = off + (k + 1 + i) * 16 + j by rw [Nat.add_mul (k + 1) i]; omega]
  exact this
abbrev Gra.more (g : Gra) : Gra := ⟨g.orig, g.proxy, g.user, g.pass, g.ask, g.count + 1, g.paths, g.addr, g.cap⟩
/-- the grants behind a use, the grant, what is wrong: as they lie -/
def rbUse (o : Org) (p : Bool) (path : ByteArray) (Gs : List Gra) : List Gra × Gra × Int :=
  match Gs[(findB o p path (Gs.map Gra.d)).toNat]? with
  | none => (Gs, zeroGra, 8)
  | some g => if findB o p path (Gs.map Gra.d) < 0 then (Gs, zeroGra, 8) else
      if 4294967295 ≤ g.count then (Gs.eraseIdx (findB o p path (Gs.map Gra.d)).toNat, zeroGra, 12)
      else (Gs.eraseIdx (findB o p path (Gs.map Gra.d)).toNat ++ [g.more], g.more, 0)
theorem rbUse_no {o : Org} {p : Bool} {path : ByteArray} {Gs : List Gra} (h : findB o p path (Gs.map Gra.d) < 0) : rbUse o p path Gs = (Gs, zeroGra, 8) := by
  unfold rbUse
  cases e : Gs[(findB o p path (Gs.map Gra.d)).toNat]? with
  | none => rfl
  | some g => simp only []; rw [if_pos h]
theorem rbUse_yes {o : Org} {p : Bool} {path : ByteArray} {Gs : List Gra} {k : Nat} (h : findB o p path (Gs.map Gra.d) = (k : Int)) (hk : k < Gs.length) : rbUse o p path Gs = if 4294967295 ≤ Gs[k].count then (Gs.take k ++ Gs.drop (k + 1), zeroGra, 12) else ((Gs.take k ++ Gs.drop (k + 1)) ++ [Gs[k].more], Gs[k].more, 0) := by
  unfold rbUse
  rw [h, Int.toNat_natCast, List.getElem?_eq_getElem hk]
  simp only []
  rw [if_neg (by omega), List.eraseIdx_eq_take_drop_succ]
/-- the bank that is left (its row lies as it did, or is one of the call's own), the grant, what is wrong -/
def RbUsePost (a : Option Addr) (r : List Gra × Gra × Int) (wa : Option Addr) (wn wc : Nat) (w : World) (e : Ending) (w' : World) : Prop :=
  (∃ a' c', e = .returned (.tuple #[.agg #[.slice a' r.1.length c', .slice wa wn wc], .agg r.2.1.arr, .int .i64 r.2.2]) ∧ RowAt 16 encGra w' a' r.1 ∧ r.1.length ≤ c' ∧ (a' = a ∨ ∀ x, a' = some x → w.heap.size ≤ x.block ∧ x.block < w'.heap.size)) ∧ Below w.heap.size w w'
theorem infoIntG : (Tryd.prog.info? 3).map (·.size) = some 1 := by kernel_rfl
set_option maxRecDepth 100000 in
set_option maxHeartbeats 8000000 in
theorem refBankUse (a : Option Addr) (cap : Nat) (Gs : List Gra) (wa : Option Addr) (wn wc : Nat) (o : Org) (p : Bool) (path : ByteArray) (w : World) (hS : RowAt 16 encGra w a Gs) (hT : ∀ g ∈ Gs, StrAt w g.addr g.paths) (hok : ∀ g ∈ Gs, g.d.Ok) (hl : Gs.length ≤ 100000) (hcap : Gs.length ≤ cap) :
    Calls Tryd.prog 7 #[.agg #[.slice a Gs.length cap, .slice wa wn wc], .agg (orgArr o), .bool p, .string path] w (RbUsePost a (rbUse o p path Gs) wa wn wc w) := by
  have hal : Below w.heap.size w ((((w.alloc (.cells #[.slice a Gs.length cap, .slice wa wn wc] tRBk)).alloc (.cells (orgArr o) 32)).alloc (.cells #[.slice none 0 0, .slice none 0 0] tRBk)).alloc (.cells zGra tGra)) := (((((Below.refl w.heap.size w).alloc (by simp; try omega) (.cells #[.slice a Gs.length cap, .slice wa wn wc] tRBk)).alloc (by simp; try omega) (.cells (orgArr o) 32)).alloc (by simp; try omega) (.cells #[.slice none 0 0, .slice none 0 0] tRBk)).alloc (by simp; try omega) (.cells zGra tGra))
  have hbk := ((((Blk.new w #[.slice a Gs.length cap, .slice wa wn wc] tRBk).alloc (.cells (orgArr o) 32)).alloc (.cells #[.slice none 0 0, .slice none 0 0] tRBk)).alloc (.cells zGra tGra))
  have hq := (((Blk.new (w.alloc (.cells #[.slice a Gs.length cap, .slice wa wn wc] tRBk)) (orgArr o) 32).alloc (.cells #[.slice none 0 0, .slice none 0 0] tRBk)).alloc (.cells zGra tGra))
  have h8 := ((Blk.new ((w.alloc (.cells #[.slice a Gs.length cap, .slice wa wn wc] tRBk)).alloc (.cells (orgArr o) 32)) #[.slice none 0 0, .slice none 0 0] tRBk).alloc (.cells zGra tGra))
  have h9 := (Blk.new (((w.alloc (.cells #[.slice a Gs.length cap, .slice wa wn wc] tRBk)).alloc (.cells (orgArr o) 32)).alloc (.cells #[.slice none 0 0, .slice none 0 0] tRBk)) zGra tGra)
  simp only [World.size_alloc] at hq h8 h9
  have hfi := fun w5 hS hT => refBankFind a cap Gs wa wn wc o p path w5 hS hT (fun g hg => ⟨(hok g hg).l2, (hok g hg).sz⟩) hl

  rcases findB_range o p path (Gs.map Gra.d) with hfb | ⟨hfb0, hfb1⟩
  · rw [rbUse_no (by omega)]
    simp only [hfb] at hfi
    have hSH := Lib.hid hS
    go_enter Tryd.func7, Tryd.ntmps7
    go_upto_region 1 with (fail)
    generalize ((((w.alloc (.cells #[.slice a Gs.length cap, .slice wa wn wc] tRBk)).alloc (.cells (orgArr o) 32)).alloc (.cells #[.slice none 0 0, .slice none 0 0] tRBk)).alloc (.cells zGra tGra)) = w5 at hal hbk hq h8 h9 ⊢
    have hfw := hfi w5 (hS.later hal) (fun g hg => (hT g hg).later hal)
    have halH := Lib.hid hal
    have hzl := h9.lt
    clear hfi hS hT hal
    go_wp2_with (first
      | (refine wpList_load_blk rfl tRBk _ rfl _ rfl hbk _ undRBk rfl infoRBk ?_)
      | (refine wpList_load_blk rfl 32 _ rfl _ rfl hq _ Tryd.underlying32 rfl infoOrgB ?_))
    refine hfw.mono ?_
    rintro e w6 ⟨rfl, hB6⟩
    have hbk6 := hbk.later hB6
    have h86 := h8.later hB6
    have h96 := h9.later hB6
    have hB06 := Lib.hid (halH.out.then (Nat.le_refl _) hB6)
    clear hfw hbk h8 h9 hq hB6
    go_wp2_with (first
      | (refine wpList_load_blk rfl tRBk _ rfl _ rfl hbk6 _ undRBk rfl infoRBk ?_)
      | (refine wpList_store_blk rfl tRBk _ _ rfl _ rfl h86 #[.slice a Gs.length cap, .slice wa wn wc] rfl rfl infoRBk (by simp [Value.oneCell']) ?_; intro w7 hb7 hg7; have h97 := h96.grown hg7 (fun e => by have := Option.some.inj e; omega))
      | (refine wpList_store_blk rfl tGra _ _ rfl _ rfl h97 zGra rfl rfl infoGra (by simp [Value.oneCell']) ?_; intro w8 hb8 hg8))
    have hB8 := below_only (below_only hB06.out hg7 hB06.out.size (by omega)) hg8 (by have := hg7.size; have := hB06.out.size; omega) (by omega)
    refine bodyPost_ret (v := .tuple #[.agg #[.slice a Gs.length cap, .slice wa wn wc], .agg zGra, .int .i64 8]) ?_ rfl ?_
    · exact results_cell3 8 tRBk 9 tGra 10 (w.heap.size + 1 + 1) (w.heap.size + 1 + 1 + 1) Tryd.results7 rfl rfl rfl (loadG_blk (hb7.grown hg8 (fun e => by have := Option.some.inj e; omega)) undRBk rfl infoRBk) (loadG_blk hb8 undGra rfl infoGra)
    · exact ⟨⟨a, cap, rfl, hSH.out.later hB8, hcap, .inl rfl⟩, hB8⟩
  · obtain ⟨k, hk⟩ : ∃ k : Nat, findB o p path (Gs.map Gra.d) = (k : Int) := ⟨(findB o p path (Gs.map Gra.d)).toNat, by omega⟩
    have hlt : k < Gs.length := by rw [hk, List.length_map] at hfb1; omega
    rw [rbUse_yes hk hlt]
    simp only [hk] at hfi
    clear hfb0 hfb1 hk
    obtain ⟨L, hL⟩ : ∃ L, Hid (L = Gs.take k ++ Gs.drop (k + 1)) := ⟨_, Lib.hid rfl⟩
    rw [← hL.out]
    have hLl : L.length + 1 = Gs.length := by rw [hL.out, List.length_append, List.length_take, List.length_drop]; omega
    have hxok := hok _ (List.getElem_mem hlt)
    obtain ⟨pb, po2, rfl, hc⟩ := hS k hlt
    have hc0 := hxok.c0
    have hc1 := hxok.c1
    obtain ⟨x, hx⟩ : ∃ x, Hid (x = Gs[k]) := ⟨_, Lib.hid rfl⟩
    rw [← hx.out]
    have hrgK : Hid (w.rangeAt pb (po2 + k * 16) (encGra x)) := Lib.hid (by rw [hx.out]; exact hc)
    have hc0' : -9223372036854775808 ≤ x.count := by rw [hx.out]; exact hc0
    have hc1' : x.count ≤ 9223372036854775807 := by rw [hx.out]; exact hc1
    clear hc0 hc1 hxok hc
    obtain ⟨LM, hLM⟩ : ∃ LM, Hid (LM = L ++ [x.more]) := ⟨_, Lib.hid rfl⟩
    rw [← hLM.out]
    obtain ⟨R, hR⟩ : ∃ R : List Gra × Gra × Int, Hid (R = if 4294967295 ≤ x.count then (L, zeroGra, 12) else (LM, x.more, 0)) := ⟨_, Lib.hid rfl⟩
    rw [← hR.out]
    have hrowK := Lib.hid hS
    have hle1 : (Gs.take k).length + (Gs.drop (k + 1)).length ≤ maxLen := by rw [List.length_take, List.length_drop]; unfold maxLen; omega
    have hle2 : ((Gs.take k).length + (Gs.drop (k + 1)).length) * 216 ≤ 140737488355328 := by rw [List.length_take, List.length_drop]; omega
    have hle3 : ([] : List Gra).length + (Gs.take k).length ≤ maxLen := by rw [List.length_take]; unfold maxLen; simp; omega
    have hle4 : (([] : List Gra).length + (Gs.take k).length) * 216 ≤ 140737488355328 := by rw [List.length_take]; simp; omega
    obtain ⟨oA, hA, hsrcK⟩ : ∃ oA : Nat, (if cap = k + 1 then some (⟨pb, po2, none⟩ : Addr) else some ⟨pb, po2 + (k + 1) * 16, none⟩) = some ⟨pb, oA, none⟩ ∧ Hid (∀ W, RowAt 16 encGra W (some ⟨pb, po2, none⟩) Gs → RowAt 16 encGra W (some ⟨pb, oA, none⟩) (Gs.drop (k + 1))) := by
      by_cases h : cap = k + 1
      · refine ⟨po2, by simp [h], Lib.hid (fun W _ => ?_)⟩
        rw [List.drop_eq_nil_of_le (by omega)]
        exact RowAt.nil _ _
      · exact ⟨po2 + (k + 1) * 16, by simp [h], Lib.hid (fun W hW => rowAt_drop hW k hlt)⟩
    go_enter Tryd.func7, Tryd.ntmps7
    go_upto_region 1 with (fail)
    generalize ((((w.alloc (.cells #[.slice (some ⟨pb, po2, none⟩) Gs.length cap, .slice wa wn wc] tRBk)).alloc (.cells (orgArr o) 32)).alloc (.cells #[.slice none 0 0, .slice none 0 0] tRBk)).alloc (.cells zGra tGra)) = w5 at hal hbk hq h8 h9 ⊢
    have hfw := hfi w5 (hS.later hal) (fun g hg => (hT g hg).later hal)
    have halH := Lib.hid hal
    have hzl := h9.lt
    clear hfi hS hT hal
    go_wp2_with (first
      | (refine wpList_load_blk rfl tRBk _ rfl _ rfl hbk _ undRBk rfl infoRBk ?_)
      | (refine wpList_load_blk rfl 32 _ rfl _ rfl hq _ Tryd.underlying32 rfl infoOrgB ?_))
    refine hfw.mono ?_
    rintro e w6 ⟨rfl, hB6⟩
    have hbk6 := hbk.later hB6
    have h86 := Lib.hid (h8.later hB6)
    have h96 := Lib.hid (h9.later hB6)
    have hB06 := Lib.hid (halH.out.then (Nat.le_refl _) hB6)
    have hs56 := hB6.size
    have c6 : _ = some (Value.slice (some ⟨pb, po2, none⟩) Gs.length cap) := hbk6.cell 0 rfl
    have hrg6 : w6.rangeAt pb (po2 + k * 16) (encGra x) := fun j v hv => by
      obtain ⟨b', off', e, hcc⟩ := (hrowK.out.later hB06.out) k hlt
      cases e
      rw [hx.out] at hv
      exact hcc j v hv
    have hZ := Blk.new w6 zGra tGra
    clear hfw hbk h8 h9 hq hB6
    go_upto_region 5 with (first
      | (refine wpList_load_mid rfl tGra _ rfl pb (po2 + k * 16) rfl (encGra x) _ hrg6 undGra rfl infoGra ?_)
      | (refine wpList_store_blk rfl tGra _ _ rfl _ rfl hZ x.arr rfl rfl infoGra (gra_one x) ?_; intro w7 hp7 hg7))
    have hB67 : Below w6.heap.size w6 w7 := below_only ((Below.refl _ _).alloc (Nat.le_refl _) (.cells zGra tGra)) hg7 (by simp) (Nat.le_refl _)
    have hB07 := Lib.hid (hB06.out.then (Nat.le_refl _) hB67)
    have hrow7 := Lib.hid (hrowK.out.later hB07.out)
    have hsrc : Hid (∀ W, Below w7.heap.size w7 W → RowAt 16 encGra W (some ⟨pb, oA, none⟩) (Gs.drop (k + 1))) := Lib.hid (fun W hb => hsrcK.out W (hrow7.out.later hb))
    have hbk7 := hbk6.later hB67
    have h87 := Lib.hid (h86.out.later hB67)
    have h97 := Lib.hid (h96.out.later hB67)
    have hp7H := Lib.hid hp7
    have hs67 := hp7.lt
    have hbd : Below w7.heap.size w7 w7.drew := (Below.refl _ _).drew
    clear hg7 hZ hrg6 c6 hbk6 hB67 hp7
    have hi0 : (0 : Int) ≤ (k : Int) := by omega
    have hi1 : (k : Int) + 1 ≤ (Gs.length : Int) := by omega
    have hi2 : IntKind.i64.wrap ((k : Int) + 1) = (k : Int) + 1 := IntWalk.i64_in _ (by omega)
    have hi3 : ((k : Int) + 1).toNat = k + 1 := by omega
    have hi4 : (0 : Int) ≤ (k : Int) + 1 := by omega
    have hi5 : k ≤ cap := by omega
    have hi6 : k + 1 ≤ Gs.length := by omega
    have hi7 : Gs.length ≤ cap := hcap
    go_frame
    go_cut [] (fun wx => ∃ (a8 : Option Addr) (c8 : Nat), Hid (OwnG tGra 16 encGra wx w7.heap.size (.slice a8 L.length c8) L) ∧ Hid (Blk wx w.heap.size #[.slice a8 L.length c8, .slice wa wn wc] tRBk) ∧ Hid (Only (fun i => i = w.heap.size) w7 wx))
    case first =>
      refine wp_region_held_drew (S := fun w' => Only (fun i => i = w.heap.size) w7 w') (by kernel_rfl) (by (try dsimp only); exact Only.of_below hbd) (fun hHeld => ?_)
      refine wpAnyH_take (i := 0) (v := ?_) rfl (by kernel_rfl) (by kernel_rfl) (by kernel_rfl) (fun _ _ _ h => h) (Or.inl ⟨by rfl, ?_⟩) (by assumption) ?_
      rotate_left
      · intro w hSw; (try dsimp only at hSw); go_simp; (try with_reducible rfl)
      (try simp only [List.getElem_toArray, List.getElem_cons_succ, List.getElem_cons_zero, Act.put, List.setIfInBounds_toArray, List.set_cons_zero, List.set_cons_succ])
      refine wpAnyH_take (i := 2) (v := ?_) rfl (by kernel_rfl) (by kernel_rfl) (by kernel_rfl) (fun _ _ _ h => h) (Or.inl ⟨by rfl, ?_⟩) (by assumption) ?_
      rotate_left
      · intro w hSw; (try dsimp only at hSw); go_simp; (try with_reducible rfl)
      (try simp only [List.getElem_toArray, List.getElem_cons_succ, List.getElem_cons_zero, Act.put, List.setIfInBounds_toArray, List.set_cons_zero, List.set_cons_succ])
      refine wpAnyH_take (i := 5) (v := ?_) rfl (by kernel_rfl) (by kernel_rfl) (by kernel_rfl) (fun _ _ _ h => h) (Or.inl ⟨by rfl, ?_⟩) (by assumption) ?_
      rotate_left
      · intro w hSw; (try dsimp only at hSw); go_simp; (try with_reducible rfl)
      (try simp only [List.getElem_toArray, List.getElem_cons_succ, List.getElem_cons_zero, Act.put, List.setIfInBounds_toArray, List.set_cons_zero, List.set_cons_succ])
      refine wpAnyH_take (i := 7) (v := ?_) rfl (by kernel_rfl) (by kernel_rfl) (by kernel_rfl) (fun _ _ _ h => h) (Or.inl ⟨by rfl, ?_⟩) (by assumption) ?_
      rotate_left
      · intro w hSw; (try dsimp only at hSw); go_simp; (try with_reducible rfl)
      (try simp only [List.getElem_toArray, List.getElem_cons_succ, List.getElem_cons_zero, Act.put, List.setIfInBounds_toArray, List.set_cons_zero, List.set_cons_succ])
      refine wpAnyH_take (i := 8) (v := ?_) rfl (by kernel_rfl) (by kernel_rfl) (by kernel_rfl) (fun _ _ _ h => h) (Or.inl ⟨by rfl, ?_⟩) (by assumption) ?_
      rotate_left
      · intro w hSw; (try dsimp only at hSw); go_simp; (try with_reducible rfl)
      (try simp only [List.getElem_toArray, List.getElem_cons_succ, List.getElem_cons_zero, Act.put, List.setIfInBounds_toArray, List.set_cons_zero, List.set_cons_succ])
      refine wpAnyH_ready (rs := [1, 6]) (by kernel_rfl) (by simp) ?_
      refine AllReadyH.cons rfl (fun K hK => ?_) (AllReadyH.cons rfl (fun K hK => ?_) AllReadyH.nil)
      · have cL : _ = some (Value.slice (some ⟨pb, po2, none⟩) Gs.length cap) := (hbk7.later hbd).cell 0 rfl
        go_simp
        clear cL
        refine hK.out _ _ (by (try dsimp only); exact Only.of_below hbd) (fun hHeld => ?_)
        clear hK K
        (try simp only [List.getElem_toArray, List.getElem_cons_succ, List.getElem_cons_zero, Act.put, List.setIfInBounds_toArray, List.set_cons_zero, List.set_cons_succ])
        refine wpAnyH_take (i := 3) (v := ?_) rfl (by kernel_rfl) (by kernel_rfl) (by kernel_rfl) (fun _ _ _ h => h) (Or.inl ⟨by rfl, ?_⟩) (by assumption) ?_
        rotate_left
        · intro w hSw; (try dsimp only at hSw); go_simp; (try with_reducible rfl)
        (try simp only [List.getElem_toArray, List.getElem_cons_succ, List.getElem_cons_zero, Act.put, List.setIfInBounds_toArray, List.set_cons_zero, List.set_cons_succ])
        refine wpAnyH_ready (rs := [4, 6]) (by kernel_rfl) (by simp) ?_
        refine AllReadyH.cons rfl (fun K hK => ?_) (AllReadyH.cons rfl (fun K hK => ?_) AllReadyH.nil)
        · refine step_append_rows wholeGD Tryd.underlying24 (by rfl) (by decide) encGra_len (by rfl) _ _ (by rfl) _ w7.heap.size (.slice none 0 0) [] (by rfl) (OwnG.nil _ _) (Gs.take k) (fun y _ => encGra_one y) pb po2 _ _ (by first | rfl | (simp [Act.eval, Act.put]; done)) (by rw [List.length_take]; omega) (rowAt_take (hrow7.out.later hbd) k) hle3 hle4 hbd.size ?_
          intro v8 w8 hO8 hG8
          rw [List.nil_append] at hO8
          have hB8 := hbd.grown hG8 hbd.size (fun k hk => by cases hk)
          refine hK.out _ _ (by (try dsimp only); exact Only.of_below hB8) (fun hHeld => ?_)
          clear hK K
          (try simp only [List.getElem_toArray, List.getElem_cons_succ, List.getElem_cons_zero, Act.put, List.setIfInBounds_toArray, List.set_cons_zero, List.set_cons_succ])
          refine wpAnyH_ready (rs := [6]) (by kernel_rfl) (by simp) ?_
          refine AllReadyH.cons rfl (fun K hK => ?_) AllReadyH.nil
          have cL : _ = some (Value.slice (some ⟨pb, po2, none⟩) Gs.length cap) := (hbk7.later hB8).cell 0 rfl
          go_simp
          clear cL
          refine hK.out _ _ (by (try dsimp only); exact Only.of_below hB8) (fun hHeld => ?_)
          clear hK K
          (try simp only [List.getElem_toArray, List.getElem_cons_succ, List.getElem_cons_zero, Act.put, List.setIfInBounds_toArray, List.set_cons_zero, List.set_cons_succ])
          refine wpAnyH_take (i := 9) (v := ?_) rfl (by kernel_rfl) (by kernel_rfl) (by kernel_rfl) (fun _ _ _ h => h) (Or.inl ⟨by rfl, ?_⟩) (by assumption) ?_
          rotate_left
          · intro w hSw; (try dsimp only at hSw); go_simp; (try with_reducible rfl)
          (try simp only [List.getElem_toArray, List.getElem_cons_succ, List.getElem_cons_zero, Act.put, List.setIfInBounds_toArray, List.set_cons_zero, List.set_cons_succ])
          refine wpAnyH_ready (rs := [10]) (by kernel_rfl) (by simp) ?_
          refine AllReadyH.cons rfl (fun K hK => ?_) AllReadyH.nil
          refine step_append_rows wholeGD Tryd.underlying24 (by rfl) (by decide) encGra_len (by rfl) _ _ (by rfl) _ w7.heap.size v8 (Gs.take k) (by rfl) hO8 (Gs.drop (k + 1)) (fun y _ => encGra_one y) pb oA _ _ (by first | rfl | (simp [Act.eval, Act.put]; done)) (by rw [List.length_drop]) (hsrc.out _ hB8) hle1 hle2 hB8.size ?_
          intro v9 w9 hO9 hG9
          rw [← hL.out] at hO9
          obtain ⟨a8, c8, rfl, _⟩ := OwnG.shape encGra_len hO9
          have hB9 := hB8.grown hG9 hB8.size (fun k hk => (hO8.lt k hk).1)
          refine hK.out _ _ (by (try dsimp only); exact Only.of_below hB9) (fun hHeld => ?_)
          clear hK K
          (try simp only [List.getElem_toArray, List.getElem_cons_succ, List.getElem_cons_zero, Act.put, List.setIfInBounds_toArray, List.set_cons_zero, List.set_cons_succ])
          refine wpAnyH_take (i := 11) (v := ?_) rfl (by kernel_rfl) (by kernel_rfl) (by kernel_rfl) (fun _ _ _ h => h) (Or.inl ⟨by rfl, ?_⟩) (by assumption) ?_
          rotate_left
          · intro w hSw; (try dsimp only at hSw); go_simp; (try with_reducible rfl)
          (try simp only [List.getElem_toArray, List.getElem_cons_succ, List.getElem_cons_zero, Act.put, List.setIfInBounds_toArray, List.set_cons_zero, List.set_cons_succ])
          refine wpAnyH_ready (rs := [12]) (by kernel_rfl) (by simp) ?_
          refine AllReadyH.cons rfl (fun K hK => ?_) AllReadyH.nil
          have hb9 : Blk w9 w.heap.size #[.slice (some ⟨pb, po2, none⟩) Gs.length cap, .slice wa wn wc] tRBk := hbk7.later hB9
          have c9 := hb9.cell 0 rfl
          have f9 := hb9.free 0
          go_simp
          have ho10 := (Only.of_below (S := fun i => i = w.heap.size) hB9).set (p := ⟨w.heap.size, 0, none⟩) (.inl rfl) (.slice a8 L.length c8)
          have hO10 := Lib.hid (hO9.past (only_setCell (p := ⟨w.heap.size, 0, none⟩) (only_refl w9 (some w.heap.size)) (.inl rfl) (.slice a8 L.length c8)) (by omega))
          have hb10 : Hid (Blk (w9.setCell ⟨w.heap.size, 0, none⟩ (.slice a8 L.length c8)) w.heap.size #[.slice a8 L.length c8, .slice wa wn wc] tRBk) := Lib.hid (by simpa using hb9.set 0 (.slice a8 L.length c8))
          refine hK.out _ _ (by (try dsimp only); exact ho10) (fun hHeld => ?_)
          clear hK K
          (try simp only [List.getElem_toArray, List.getElem_cons_succ, List.getElem_cons_zero, Act.put, List.setIfInBounds_toArray, List.set_cons_zero, List.set_cons_succ])
          refine wpAnyH_done (by kernel_rfl) ?_ _
          have ho10H := Lib.hid ho10
          clear c9 f9 hb9 hB9 hG9 hO9 ho10
          go_wp2
          go_meet
          exact ⟨a8, c8, hO10, hb10, ho10H⟩
        · have cL : _ = some (Value.slice (some ⟨pb, po2, none⟩) Gs.length cap) := (hbk7.later hbd).cell 0 rfl
          go_simp
          clear cL
          refine hK.out _ _ (by (try dsimp only); exact Only.of_below hbd) (fun hHeld => ?_)
          clear hK K
          (try simp only [List.getElem_toArray, List.getElem_cons_succ, List.getElem_cons_zero, Act.put, List.setIfInBounds_toArray, List.set_cons_zero, List.set_cons_succ])
          refine wpAnyH_take (i := 9) (v := ?_) rfl (by kernel_rfl) (by kernel_rfl) (by kernel_rfl) (fun _ _ _ h => h) (Or.inl ⟨by rfl, ?_⟩) (by assumption) ?_
          rotate_left
          · intro w hSw; (try dsimp only at hSw); go_simp; (try with_reducible rfl)
          (try simp only [List.getElem_toArray, List.getElem_cons_succ, List.getElem_cons_zero, Act.put, List.setIfInBounds_toArray, List.set_cons_zero, List.set_cons_succ])
          refine wpAnyH_ready (rs := [4]) (by kernel_rfl) (by simp) ?_
          refine AllReadyH.cons rfl (fun K hK => ?_) AllReadyH.nil
          refine step_append_rows wholeGD Tryd.underlying24 (by rfl) (by decide) encGra_len (by rfl) _ _ (by rfl) _ w7.heap.size (.slice none 0 0) [] (by rfl) (OwnG.nil _ _) (Gs.take k) (fun y _ => encGra_one y) pb po2 _ _ (by first | rfl | (simp [Act.eval, Act.put]; done)) (by rw [List.length_take]; omega) (rowAt_take (hrow7.out.later hbd) k) hle3 hle4 hbd.size ?_
          intro v8 w8 hO8 hG8
          rw [List.nil_append] at hO8
          have hB8 := hbd.grown hG8 hbd.size (fun k hk => by cases hk)
          refine hK.out _ _ (by (try dsimp only); exact Only.of_below hB8) (fun hHeld => ?_)
          clear hK K
          (try simp only [List.getElem_toArray, List.getElem_cons_succ, List.getElem_cons_zero, Act.put, List.setIfInBounds_toArray, List.set_cons_zero, List.set_cons_succ])
          refine wpAnyH_ready (rs := [10]) (by kernel_rfl) (by simp) ?_
          refine AllReadyH.cons rfl (fun K hK => ?_) AllReadyH.nil
          refine step_append_rows wholeGD Tryd.underlying24 (by rfl) (by decide) encGra_len (by rfl) _ _ (by rfl) _ w7.heap.size v8 (Gs.take k) (by rfl) hO8 (Gs.drop (k + 1)) (fun y _ => encGra_one y) pb oA _ _ (by first | rfl | (simp [Act.eval, Act.put]; done)) (by rw [List.length_drop]) (hsrc.out _ hB8) hle1 hle2 hB8.size ?_
          intro v9 w9 hO9 hG9
          rw [← hL.out] at hO9
          obtain ⟨a8, c8, rfl, _⟩ := OwnG.shape encGra_len hO9
          have hB9 := hB8.grown hG9 hB8.size (fun k hk => (hO8.lt k hk).1)
          refine hK.out _ _ (by (try dsimp only); exact Only.of_below hB9) (fun hHeld => ?_)
          clear hK K
          (try simp only [List.getElem_toArray, List.getElem_cons_succ, List.getElem_cons_zero, Act.put, List.setIfInBounds_toArray, List.set_cons_zero, List.set_cons_succ])
          refine wpAnyH_take (i := 11) (v := ?_) rfl (by kernel_rfl) (by kernel_rfl) (by kernel_rfl) (fun _ _ _ h => h) (Or.inl ⟨by rfl, ?_⟩) (by assumption) ?_
          rotate_left
          · intro w hSw; (try dsimp only at hSw); go_simp; (try with_reducible rfl)
          (try simp only [List.getElem_toArray, List.getElem_cons_succ, List.getElem_cons_zero, Act.put, List.setIfInBounds_toArray, List.set_cons_zero, List.set_cons_succ])
          refine wpAnyH_ready (rs := [12]) (by kernel_rfl) (by simp) ?_
          refine AllReadyH.cons rfl (fun K hK => ?_) AllReadyH.nil
          have hb9 : Blk w9 w.heap.size #[.slice (some ⟨pb, po2, none⟩) Gs.length cap, .slice wa wn wc] tRBk := hbk7.later hB9
          have c9 := hb9.cell 0 rfl
          have f9 := hb9.free 0
          go_simp
          have ho10 := (Only.of_below (S := fun i => i = w.heap.size) hB9).set (p := ⟨w.heap.size, 0, none⟩) (.inl rfl) (.slice a8 L.length c8)
          have hO10 := Lib.hid (hO9.past (only_setCell (p := ⟨w.heap.size, 0, none⟩) (only_refl w9 (some w.heap.size)) (.inl rfl) (.slice a8 L.length c8)) (by omega))
          have hb10 : Hid (Blk (w9.setCell ⟨w.heap.size, 0, none⟩ (.slice a8 L.length c8)) w.heap.size #[.slice a8 L.length c8, .slice wa wn wc] tRBk) := Lib.hid (by simpa using hb9.set 0 (.slice a8 L.length c8))
          refine hK.out _ _ (by (try dsimp only); exact ho10) (fun hHeld => ?_)
          clear hK K
          (try simp only [List.getElem_toArray, List.getElem_cons_succ, List.getElem_cons_zero, Act.put, List.setIfInBounds_toArray, List.set_cons_zero, List.set_cons_succ])
          refine wpAnyH_done (by kernel_rfl) ?_ _
          have ho10H := Lib.hid ho10
          clear c9 f9 hb9 hB9 hG9 hO9 ho10
          go_wp2
          go_meet
          exact ⟨a8, c8, hO10, hb10, ho10H⟩
      · have cL : _ = some (Value.slice (some ⟨pb, po2, none⟩) Gs.length cap) := (hbk7.later hbd).cell 0 rfl
        go_simp
        clear cL
        refine hK.out _ _ (by (try dsimp only); exact Only.of_below hbd) (fun hHeld => ?_)
        clear hK K
        (try simp only [List.getElem_toArray, List.getElem_cons_succ, List.getElem_cons_zero, Act.put, List.setIfInBounds_toArray, List.set_cons_zero, List.set_cons_succ])
        refine wpAnyH_take (i := 9) (v := ?_) rfl (by kernel_rfl) (by kernel_rfl) (by kernel_rfl) (fun _ _ _ h => h) (Or.inl ⟨by rfl, ?_⟩) (by assumption) ?_
        rotate_left
        · intro w hSw; (try dsimp only at hSw); go_simp; (try with_reducible rfl)
        (try simp only [List.getElem_toArray, List.getElem_cons_succ, List.getElem_cons_zero, Act.put, List.setIfInBounds_toArray, List.set_cons_zero, List.set_cons_succ])
        refine wpAnyH_ready (rs := [1]) (by kernel_rfl) (by simp) ?_
        refine AllReadyH.cons rfl (fun K hK => ?_) AllReadyH.nil
        have cL : _ = some (Value.slice (some ⟨pb, po2, none⟩) Gs.length cap) := (hbk7.later hbd).cell 0 rfl
        go_simp
        clear cL
        refine hK.out _ _ (by (try dsimp only); exact Only.of_below hbd) (fun hHeld => ?_)
        clear hK K
        (try simp only [List.getElem_toArray, List.getElem_cons_succ, List.getElem_cons_zero, Act.put, List.setIfInBounds_toArray, List.set_cons_zero, List.set_cons_succ])
        refine wpAnyH_take (i := 3) (v := ?_) rfl (by kernel_rfl) (by kernel_rfl) (by kernel_rfl) (fun _ _ _ h => h) (Or.inl ⟨by rfl, ?_⟩) (by assumption) ?_
        rotate_left
        · intro w hSw; (try dsimp only at hSw); go_simp; (try with_reducible rfl)
        (try simp only [List.getElem_toArray, List.getElem_cons_succ, List.getElem_cons_zero, Act.put, List.setIfInBounds_toArray, List.set_cons_zero, List.set_cons_succ])
        refine wpAnyH_ready (rs := [4]) (by kernel_rfl) (by simp) ?_
        refine AllReadyH.cons rfl (fun K hK => ?_) AllReadyH.nil
        refine step_append_rows wholeGD Tryd.underlying24 (by rfl) (by decide) encGra_len (by rfl) _ _ (by rfl) _ w7.heap.size (.slice none 0 0) [] (by rfl) (OwnG.nil _ _) (Gs.take k) (fun y _ => encGra_one y) pb po2 _ _ (by first | rfl | (simp [Act.eval, Act.put]; done)) (by rw [List.length_take]; omega) (rowAt_take (hrow7.out.later hbd) k) hle3 hle4 hbd.size ?_
        intro v8 w8 hO8 hG8
        rw [List.nil_append] at hO8
        have hB8 := hbd.grown hG8 hbd.size (fun k hk => by cases hk)
        refine hK.out _ _ (by (try dsimp only); exact Only.of_below hB8) (fun hHeld => ?_)
        clear hK K
        (try simp only [List.getElem_toArray, List.getElem_cons_succ, List.getElem_cons_zero, Act.put, List.setIfInBounds_toArray, List.set_cons_zero, List.set_cons_succ])
        refine wpAnyH_ready (rs := [10]) (by kernel_rfl) (by simp) ?_
        refine AllReadyH.cons rfl (fun K hK => ?_) AllReadyH.nil
        refine step_append_rows wholeGD Tryd.underlying24 (by rfl) (by decide) encGra_len (by rfl) _ _ (by rfl) _ w7.heap.size v8 (Gs.take k) (by rfl) hO8 (Gs.drop (k + 1)) (fun y _ => encGra_one y) pb oA _ _ (by first | rfl | (simp [Act.eval, Act.put]; done)) (by rw [List.length_drop]) (hsrc.out _ hB8) hle1 hle2 hB8.size ?_
        intro v9 w9 hO9 hG9
        rw [← hL.out] at hO9
        obtain ⟨a8, c8, rfl, _⟩ := OwnG.shape encGra_len hO9
        have hB9 := hB8.grown hG9 hB8.size (fun k hk => (hO8.lt k hk).1)
        refine hK.out _ _ (by (try dsimp only); exact Only.of_below hB9) (fun hHeld => ?_)
        clear hK K
        (try simp only [List.getElem_toArray, List.getElem_cons_succ, List.getElem_cons_zero, Act.put, List.setIfInBounds_toArray, List.set_cons_zero, List.set_cons_succ])
        refine wpAnyH_take (i := 11) (v := ?_) rfl (by kernel_rfl) (by kernel_rfl) (by kernel_rfl) (fun _ _ _ h => h) (Or.inl ⟨by rfl, ?_⟩) (by assumption) ?_
        rotate_left
        · intro w hSw; (try dsimp only at hSw); go_simp; (try with_reducible rfl)
        (try simp only [List.getElem_toArray, List.getElem_cons_succ, List.getElem_cons_zero, Act.put, List.setIfInBounds_toArray, List.set_cons_zero, List.set_cons_succ])
        refine wpAnyH_ready (rs := [12]) (by kernel_rfl) (by simp) ?_
        refine AllReadyH.cons rfl (fun K hK => ?_) AllReadyH.nil
        have hb9 : Blk w9 w.heap.size #[.slice (some ⟨pb, po2, none⟩) Gs.length cap, .slice wa wn wc] tRBk := hbk7.later hB9
        have c9 := hb9.cell 0 rfl
        have f9 := hb9.free 0
        go_simp
        have ho10 := (Only.of_below (S := fun i => i = w.heap.size) hB9).set (p := ⟨w.heap.size, 0, none⟩) (.inl rfl) (.slice a8 L.length c8)
        have hO10 := Lib.hid (hO9.past (only_setCell (p := ⟨w.heap.size, 0, none⟩) (only_refl w9 (some w.heap.size)) (.inl rfl) (.slice a8 L.length c8)) (by omega))
        have hb10 : Hid (Blk (w9.setCell ⟨w.heap.size, 0, none⟩ (.slice a8 L.length c8)) w.heap.size #[.slice a8 L.length c8, .slice wa wn wc] tRBk) := Lib.hid (by simpa using hb9.set 0 (.slice a8 L.length c8))
        refine hK.out _ _ (by (try dsimp only); exact ho10) (fun hHeld => ?_)
        clear hK K
        (try simp only [List.getElem_toArray, List.getElem_cons_succ, List.getElem_cons_zero, Act.put, List.setIfInBounds_toArray, List.set_cons_zero, List.set_cons_succ])
        refine wpAnyH_done (by kernel_rfl) ?_ _
        have ho10H := Lib.hid ho10
        clear c9 f9 hb9 hB9 hG9 hO9 ho10
        go_wp2
        go_meet
        exact ⟨a8, c8, hO10, hb10, ho10H⟩
    case rest =>
      obtain ⟨a8, c8, hO8, hb8, ho8⟩ := hcut
      rename World => w8
      have hs8 := ho8.out.size
      have h88 := Lib.hid (ho8.out.blk h87.out (by omega))
      have h98 := Lib.hid (ho8.out.blk h97.out (by omega))
      have hp8 := ho8.out.blk hp7H.out (by omega)
      have hB08 := Lib.hid (ho8.out.below hB07.out hB07.out.size (fun i e => by omega))
      have c14 : _ = some (Value.int .i64 x.count) := hp8.cell 14 rfl
      by_cases hfull : 4294967295 ≤ x.count
      · have hb8o := hb8.out
        have h88o := h88.out
        go_wp2_with (first
          | (refine wpList_load_blk rfl tRBk _ rfl _ rfl hb8o _ undRBk rfl infoRBk ?_)
          | (refine wpList_store_blk rfl tRBk _ _ rfl _ rfl h88o #[.slice a8 L.length c8, .slice wa wn wc] rfl rfl infoRBk (by simp [Value.oneCell']) ?_; intro w9 hb9 hg9; have h99 := h98.out.grown hg9 (fun e => by have := Option.some.inj e; omega))
          | (refine wpList_store_blk rfl tGra _ _ rfl _ rfl h99 zGra rfl rfl infoGra (by simp [Value.oneCell']) ?_; intro w10 hb10 hg10))
        have hB10 := below_only (below_only hB08.out hg9 hB08.out.size (by omega)) hg10 (by have := hg9.size; have := hB08.out.size; omega) (by omega)
        have hO10 := (hO8.out.past hg9 (by omega)).past hg10 (by omega)
        refine bodyPost_ret (v := .tuple #[.agg #[.slice a8 L.length c8, .slice wa wn wc], .agg zGra, .int .i64 12]) ?_ rfl ?_
        · exact results_cell3 8 tRBk 9 tGra 10 (w.heap.size + 1 + 1) (w.heap.size + 1 + 1 + 1) Tryd.results7 rfl rfl rfl (loadG_blk (hb9.grown hg10 (fun e => by have := Option.some.inj e; omega)) undRBk rfl infoRBk) (loadG_blk hb10 undGra rfl infoGra)
        · obtain ⟨a15, c15, e15, hr15, hc15, _⟩ := OwnG.shape encGra_len hO10
          simp only [Value.slice.injEq] at e15
          obtain ⟨rfl, _, rfl⟩ := e15
          rw [hR.out, if_pos hfull]
          exact ⟨⟨_, _, rfl, hr15, hc15, .inr (fun y hy => by have := hO10.lt y.block (by rw [hy]; rfl); have := hB07.out.size; omega)⟩, hB10⟩
      · have hfl : x.count + 1 ≤ 4294967295 := by omega
        go_upto_region 9 with (refine wpList_store_cell rfl _ _ _ (by rfl) w6.heap.size 14 (by rfl) hp8 (by decide : 14 < 16) (.int .i64 (x.count + 1)) (by first | rfl | (simp [Act.eval, Act.put]; done)) (by rfl) (by rfl) infoIntG ?_; intro w9 hp9 hg9)
        have hp9' : Blk w9 w6.heap.size x.more.arr tGra := hp9
        have hb9 := hb8.out.grown hg9 (fun e => by have := Option.some.inj e; omega)
        have h89 := Lib.hid (h88.out.grown hg9 (fun e => by have := Option.some.inj e; omega))
        have h99 := Lib.hid (h98.out.grown hg9 (fun e => by have := Option.some.inj e; omega))
        have hO9 := hO8.out.past hg9 (by omega)
        have hB09 := Lib.hid (below_only hB08.out hg9 hB08.out.size (by have := hB06.out.size; omega))
        have hs9 : w7.heap.size ≤ w9.heap.size := Nat.le_trans hs8 hg9.size
        have c0 : _ = some (Value.slice a8 L.length c8) := hb9.cell 0 rfl
        have hl1 : L.length + 1 ≤ maxLen := by unfold maxLen; omega
        have hl2 : (L.length + 1) * 216 ≤ 140737488355328 := by omega
        have hO9H := Lib.hid hO9
        have hb9H := Lib.hid hb9
        have hp9H := Lib.hid hp9'
        clear hp9 hg9 hp8 c14 hb9 hb8 hO8 h88 h98
        go_wp2_with (first
          | (refine wpList_load_blk rfl tGra _ rfl _ rfl hp9' _ undGra rfl infoGra ?_)
          | (at_builtin; refine wpList_append_one wholeGD Tryd.underlying24 (by rfl) (by decide) encGra_len (by rfl) _ _ (by rfl) w9 w7.heap.size (.slice a8 L.length c8) L (by rfl) hO9 x.more (encGra_one _) _ (by rfl) _ (by rfl) (by rfl) hl1 hl2 hs9 ?_; intro v11 w11 hO11 hG11 hne11; rw [← hLM.out] at hO11; obtain ⟨a11, c11, rfl, _⟩ := OwnG.shape encGra_len hO11; clear hne11 c0; have hgn : ∀ b, b < w7.heap.size → (Value.slice a8 L.length c8).ownBlock ≠ some b := fun b hb e => (by have := (hO9H.out.lt _ e).1; omega); have hb11 := (hb9H.out.alloc (.cells x.more.arr tGra)).grown hG11 (hgn _ (by omega)))
          | (refine wpList_store_cell rfl _ _ _ (by rfl) w.heap.size 0 (by rfl) hb11 (by decide : 0 < 2) (.slice a11 LM.length c11) (by rfl) (by rfl) (by rfl) infoGrantsR ?_; intro w13 hb13 hg13))
        have hB11 := below_append hB09.out (hO9H.out.base (B' := w.heap.size) (fun k e => by have := (hO9H.out.lt k e).1; omega)) hG11 hB09.out.size
        have hB13 := Lib.hid (below_only hB11 hg13 hB11.size (Nat.le_refl _))
        have hO13 := Lib.hid (hO11.past hg13 (by omega))
        have hp13 := ((hp9H.out.alloc (.cells x.more.arr tGra)).grown hG11 (hgn _ (by omega))).grown hg13 (fun e => by have := Option.some.inj e; omega)
        have h813 := ((h89.out.alloc (.cells x.more.arr tGra)).grown hG11 (hgn _ (by omega))).grown hg13 (fun e => by have := Option.some.inj e; omega)
        have h913 := ((h99.out.alloc (.cells x.more.arr tGra)).grown hG11 (hgn _ (by omega))).grown hg13 (fun e => by have := Option.some.inj e; omega)
        have hb13' : Blk w13 w.heap.size #[.slice a11 LM.length c11, .slice wa wn wc] tRBk := hb13
        clear hb13
        have hb13 := hb13'
        clear hb13' hgn hb11 hG11 hO11 hp9' hO9 hB11 hg13
        refine wp_region_held_drew (S := fun w' => Blk w' w.heap.size #[.slice a11 LM.length c11, .slice wa wn wc] tRBk ∧ Blk w' w6.heap.size x.more.arr tGra) (by kernel_rfl) (by (try dsimp only); exact ⟨hb13, hp13⟩) (fun hHeld => ?_)
        refine wpAnyH_take (i := 0) (v := .agg #[.slice a11 LM.length c11, .slice wa wn wc]) rfl (by kernel_rfl) (by kernel_rfl) (by kernel_rfl) (fun _ _ _ h => h) (yieldsIf_load_mid (by rfl) tRBk _ rfl w.heap.size 0 (by rfl) [.slice a11 LM.length c11, .slice wa wn wc] _ (fun w h => h.1.range) undRBk rfl infoRBk) (by assumption) ?_
        (try simp only [List.getElem_toArray, List.getElem_cons_succ, List.getElem_cons_zero, Act.put, List.setIfInBounds_toArray, List.set_cons_zero, List.set_cons_succ])
        refine wpAnyH_take (i := 1) (v := .agg x.more.arr) rfl (by kernel_rfl) (by kernel_rfl) (by kernel_rfl) (fun _ _ _ h => h) (yieldsIf_load_mid (by rfl) tGra _ rfl w6.heap.size 0 (by rfl) (encGra x.more) _ (fun w h => h.2.range) undGra rfl infoGra) (by assumption) ?_
        (try simp only [List.getElem_toArray, List.getElem_cons_succ, List.getElem_cons_zero, Act.put, List.setIfInBounds_toArray, List.set_cons_zero, List.set_cons_succ])
        refine wpAnyH_ready (rs := [2]) (by kernel_rfl) (by simp) ?_
        refine AllReadyH.cons rfl (fun K hK => ?_) AllReadyH.nil
        refine step_put_blk rfl tRBk _ _ rfl _ rfl (show Blk w13.drew (w.heap.size + 1 + 1) #[.slice none 0 0, .slice none 0 0] tRBk from h813) #[.slice a11 LM.length c11, .slice wa wn wc] rfl rfl infoRBk (by simp [Value.oneCell']) ?_
        intro w14 hb14 hg14
        have e1 : Blk w14 w.heap.size #[.slice a11 LM.length c11, .slice wa wn wc] tRBk := (show Blk w13.drew w.heap.size _ tRBk from hb13).grown hg14 (fun e => by have := Option.some.inj e; omega)
        have e2 : Blk w14 w6.heap.size x.more.arr tGra := (show Blk w13.drew w6.heap.size _ tGra from hp13).grown hg14 (fun e => by have := Option.some.inj e; omega)
        refine hK.out _ _ (by (try dsimp only); exact ⟨e1, e2⟩) (fun hHeld => ?_)
        clear hK K
        (try simp only [List.getElem_toArray, List.getElem_cons_succ, List.getElem_cons_zero, Act.put, List.setIfInBounds_toArray, List.set_cons_zero, List.set_cons_succ])
        refine wpAnyH_ready (rs := [3]) (by kernel_rfl) (by simp) ?_
        refine AllReadyH.cons rfl (fun K hK => ?_) AllReadyH.nil
        refine step_put_blk rfl tGra _ _ rfl _ rfl ((show Blk w13.drew (w.heap.size + 1 + 1 + 1) zGra tGra from h913).grown hg14 (fun e => by have := Option.some.inj e; omega)) x.more.arr rfl rfl infoGra (gra_one x.more) ?_
        intro w15 hb15 hg15
        refine hK.out _ _ (by (try dsimp only); exact ⟨e1.grown hg15 (fun e => by have := Option.some.inj e; omega), e2.grown hg15 (fun e => by have := Option.some.inj e; omega)⟩) (fun hHeld => ?_)
        clear hK K
        (try simp only [List.getElem_toArray, List.getElem_cons_succ, List.getElem_cons_zero, Act.put, List.setIfInBounds_toArray, List.set_cons_zero, List.set_cons_succ])
        have hO15 := ((show OwnG tGra 16 encGra w13.drew w7.heap.size _ LM from hO13.out).past hg14 (by omega)).past hg15 (by omega)
        have hB15 := below_only (below_only hB13.out.drew hg14 hB13.out.size (by omega)) hg15 (by have := hg14.size; have := hB13.out.size; simp only [World.drew] at *; omega) (by omega)
        refine wpAnyH_take (i := 4) (v := ?_) rfl (by kernel_rfl) (by kernel_rfl) (by kernel_rfl) (fun _ _ _ h => h) (Or.inl ⟨by rfl, ?_⟩) (by assumption) ?_
        rotate_left
        · intro w hSw; (try dsimp only at hSw); go_simp; (try with_reducible rfl)
        (try simp only [List.getElem_toArray, List.getElem_cons_succ, List.getElem_cons_zero, Act.put, List.setIfInBounds_toArray, List.set_cons_zero, List.set_cons_succ])
        refine wpAnyH_done (by kernel_rfl) ?_ _
        go_wp2
        refine bodyPost_ret (v := .tuple #[.agg #[.slice a11 LM.length c11, .slice wa wn wc], .agg x.more.arr, .int .i64 0]) ?_ rfl ?_
        · exact results_cell3 8 tRBk 9 tGra 10 (w.heap.size + 1 + 1) (w.heap.size + 1 + 1 + 1) Tryd.results7 rfl rfl rfl (loadG_blk (hb14.grown hg15 (fun e => by have := Option.some.inj e; omega)) undRBk rfl infoRBk) (loadG_blk hb15 undGra rfl infoGra)
        · obtain ⟨a15, c15, e15, hr15, hc15, _⟩ := OwnG.shape encGra_len hO15
          simp only [Value.slice.injEq] at e15
          obtain ⟨rfl, _, rfl⟩ := e15
          rw [hR.out, if_neg (by omega)]
          exact ⟨⟨_, _, rfl, hr15, hc15, .inr (fun y hy => by have := hO15.lt y.block (by rw [hy]; rfl); omega)⟩, hB15⟩
end Go.Proofs.YtchgpdgigpaloaaDoor
