/- The reference's bank: Sweep, Find. -/
import Derived.Test.YtchgpdgigpaloaaDoorRbB
import Derived.Test.YtchgpdgigpaloaaDoorBankC
namespace Go.Proofs.YtchgpdgigpaloaaDoor
set_option linter.unusedSimpArgs false
open Go.RowKit Go.Deep
def RbSweepPost (l : List Gra) (l2 : List Wai) (n : Int) (w : World) (e : Ending) (w' : World) : Prop := (∃ v v2, e = .returned (.tuple #[.agg #[v, v2], .int .i64 n]) ∧ OwnG tGra 16 encGra w' w.heap.size v l ∧ OwnG tWaiR 13 encWai w' w.heap.size v2 l2) ∧ Below w.heap.size w w'
set_option maxRecDepth 100000 in
set_option maxHeartbeats 4000000 in
theorem refBankSweep (a : Option Addr) (cap : Nat) (Gs : List Gra) (wa : Option Addr) (wc : Nat) (Ws : List Wai) (o : Org) (w : World) (hS : RowAt 16 encGra w a Gs) (hW : RowAt 13 encWai w wa Ws) (hl : Gs.length ≤ 100000) (hlw : Ws.length ≤ 100000) :
    Calls Tryd.prog 17 #[.agg #[.slice a Gs.length cap, .slice wa Ws.length wc], .agg (orgArr o)] w (RbSweepPost (Gs.filter (fun x => !orgE x.orig o)) ((Ws.filter (fun x => !keyW o false x.d)).filter (fun x => !keyW o true x.d)) ((Gs.length : Int) - ((Gs.filter (fun x => !orgE x.orig o)).length : Int)) w) := by
  have hal : Below w.heap.size w (((w.alloc (.cells #[.slice a Gs.length cap, .slice wa Ws.length wc] tRBk)).alloc (.cells (orgArr o) 32)).alloc (.cells #[.slice none 0 0, .slice none 0 0] tRBk)) := ((((Below.refl w.heap.size w).alloc (by simp; try omega) (.cells #[.slice a Gs.length cap, .slice wa Ws.length wc] tRBk)).alloc (by simp; try omega) (.cells (orgArr o) 32)).alloc (by simp; try omega) (.cells #[.slice none 0 0, .slice none 0 0] tRBk))
  have hbk := (((Blk.new w #[.slice a Gs.length cap, .slice wa Ws.length wc] tRBk).alloc (.cells (orgArr o) 32)).alloc (.cells #[.slice none 0 0, .slice none 0 0] tRBk))
  have hq := ((Blk.new (w.alloc (.cells #[.slice a Gs.length cap, .slice wa Ws.length wc] tRBk)) (orgArr o) 32).alloc (.cells #[.slice none 0 0, .slice none 0 0] tRBk))
  have hz := (Blk.new ((w.alloc (.cells #[.slice a Gs.length cap, .slice wa Ws.length wc] tRBk)).alloc (.cells (orgArr o) 32)) #[.slice none 0 0, .slice none 0 0] tRBk)
  simp only [World.size_alloc] at hq hz
  have hsmK := fun w5 hS hq => refWithout 44 #[.pointer (some ⟨w.heap.size + 1, 0, none⟩)] (fun x => orgE x.orig o) a cap Gs w5 hS (by omega) (fun _ _ => rfl) (fun W x hb _ => refSweepG x o _ W (Blk.later hq hb))
  have hf1 : (Gs.filter (fun x => !orgE x.orig o)).length ≤ Gs.length := List.length_filter_le _ _
  generalize Gs.filter (fun x => !orgE x.orig o) = l1 at hsmK hf1 ⊢
  have hf2 : (Ws.filter (fun x => !keyW o false x.d)).length ≤ Ws.length := List.length_filter_le _ _
  obtain ⟨l2, hl2⟩ : ∃ l2, Hid (l2 = Ws.filter (fun x => !keyW o false x.d)) := ⟨_, Lib.hid rfl⟩
  rw [← hl2.out] at hf2 ⊢
  obtain ⟨l3, hl3⟩ : ∃ l3, Hid (l3 = l2.filter (fun x => !keyW o true x.d)) := ⟨_, Lib.hid rfl⟩
  rw [← hl3.out]
  go_enter Tryd.func17, Tryd.ntmps17
  go_upto_region 1 with (fail)
  generalize (((w.alloc (.cells #[.slice a Gs.length cap, .slice wa Ws.length wc] tRBk)).alloc (.cells (orgArr o) 32)).alloc (.cells #[.slice none 0 0, .slice none 0 0] tRBk)) = w5 at hal hbk hq hz ⊢
  have hsm := hsmK w5 (hS.later hal) hq
  have c0 : _ = some (Value.slice a Gs.length cap) := hbk.cell 0 rfl
  have halH := Lib.hid hal
  have hzl := hz.lt
  have hWH := Lib.hid hW
  clear hS hal hsmK hW
  go_wp2_with fail
  refine hsm.mono ?_
  rintro e w6 ⟨⟨v, rfl, hO⟩, hB6⟩
  obtain ⟨a2, c2, rfl, _⟩ := OwnG.shape encGra_len hO
  have hbk6 := hbk.later hB6
  have hq6 := hq.later hB6
  have hz6 := hz.later hB6
  have hB06 := Lib.hid (halH.out.then (Nat.le_refl _) hB6)
  have hs56 := hB6.size
  have hOh := Lib.hid hO
  clear hO hB6 hsm hbk hz hq c0
  go_upto_region 3 with (refine wpList_store_cell rfl _ _ _ (by rfl) w.heap.size 0 (by rfl) hbk6 (by decide : 0 < 2) (.slice a2 l1.length c2) (by rfl) (by rfl) (by rfl) infoGrantsR ?_; intro w7 hb7 hg7)
  have hb7' : Blk w7 w.heap.size #[.slice a2 l1.length c2, .slice wa Ws.length wc] tRBk := hb7
  have hz7 := hz6.grown hg7 (fun e => by have := Option.some.inj e; omega)
  have hq7 := hq6.grown hg7 (fun e => by have := Option.some.inj e; omega)
  have hO7 := Lib.hid (hOh.out.past hg7 (by omega))
  have hB07 := Lib.hid (below_only hB06.out hg7 hB06.out.size (Nat.le_refl _))
  have hs7 : w5.heap.size ≤ w7.heap.size := Nat.le_trans hs56 hg7.size
  have ht1 := refBankTake a2 l1.length c2 wa wc Ws o false w7 (hWH.out.later hB07.out) hlw
  rw [← hl2.out] at ht1
  clear hb7 hz6 hq6 hbk6 hg7
  go_wp2_with (first
    | (refine wpList_load_blk rfl tRBk _ rfl _ rfl hb7' _ undRBk rfl infoRBk ?_)
    | (refine wpList_load_blk rfl 32 _ rfl _ rfl hq7 _ Tryd.underlying32 rfl infoOrgB ?_))
  refine ht1.mono ?_
  rintro e w8 ⟨⟨v8, rfl, hO8⟩, hB8⟩
  obtain ⟨a8, c8, rfl, hr8, _⟩ := OwnG.shape encWai_len hO8
  have hb8 := hb7'.later hB8
  have hq8 := hq7.later hB8
  have hz8 := hz7.later hB8
  have hO8h := Lib.hid (OwnG.later hO7.out hB8)
  have hB08 := Lib.hid (hB07.out.then (Nat.le_refl _) hB8)
  have hs8 := hB8.size
  have hr8H := Lib.hid hr8
  have hfar : ∀ x, a8 = some x → ¬ x.block = w.heap.size := fun x hx e => by have := (hO8.lt x.block (by rw [hx]; rfl)).1; omega
  clear ht1 hO8 hB8 hr8 hb7' hq7 hz7
  go_upto_region 4 with (refine wpList_store_blk rfl tRBk _ _ rfl _ rfl hb8 #[.slice a2 l1.length c2, .slice a8 l2.length c8] rfl rfl infoRBk (by simp [Value.oneCell']) ?_; intro w9 hb9 hg9)
  have hz9 := hz8.grown hg9 (fun e => by have := Option.some.inj e; omega)
  have hq9 := hq8.grown hg9 (fun e => by have := Option.some.inj e; omega)
  have hO9 := Lib.hid (hO8h.out.past hg9 (by omega))
  have hB09 := Lib.hid (below_only hB08.out hg9 hB08.out.size (Nat.le_refl _))
  have hr9 : RowAt 13 encWai w9 a8 l2 := (Only.of_grown (S := fun i => i = w.heap.size) hg9 (fun i e => (Option.some.inj e).symm)).rowAt hr8H.out (fun x hx e => hfar x hx e)
  have ht2 := refBankTake a2 l1.length c2 a8 c8 l2 o true w9 hr9 (by omega)
  rw [← hl3.out] at ht2
  have hs9 : w5.heap.size ≤ w9.heap.size := by have := hg9.size; omega
  clear hz8 hq8 hb8 hg9
  go_wp2_with (first
    | (refine wpList_load_blk rfl tRBk _ rfl _ rfl hb9 _ undRBk rfl infoRBk ?_)
    | (refine wpList_load_blk rfl 32 _ rfl _ rfl hq9 _ Tryd.underlying32 rfl infoOrgB ?_))
  refine ht2.mono ?_
  rintro e w10 ⟨⟨v10, rfl, hO10⟩, hB10⟩
  obtain ⟨a10, c10, rfl, _⟩ := OwnG.shape encWai_len hO10
  have hb10 := hb9.later hB10
  have hz10 := hz9.later hB10
  have hO10g := Lib.hid (OwnG.later hO9.out hB10)
  have hO10w := Lib.hid (hO10.base (B' := w5.heap.size) (fun g e => by have := (hO10.lt g e).1; omega))
  have hB010 := Lib.hid (hB09.out.then (Nat.le_refl _) hB10)
  clear ht2 hO10 hB10 hr9 hb9 hq9 hz9
  go_upto_region 5 with (refine wpList_store_blk rfl tRBk _ _ rfl _ rfl hb10 #[.slice a2 l1.length c2, .slice a10 l3.length c10] rfl rfl infoRBk (by simp [Value.oneCell']) ?_; intro w11 hb11 hg11)
  have hz11 := hz10.grown hg11 (fun e => by have := Option.some.inj e; omega)
  have hO11 := Lib.hid (hO10g.out.past hg11 (by omega))
  have hP11 := Lib.hid (hO10w.out.past hg11 (by omega))
  have hB011 := Lib.hid (below_only hB010.out hg11 hB010.out.size (Nat.le_refl _))
  have hw0 : (0 : Int) ≤ (Gs.length : Int) - (l1.length : Int) := by omega
  have hw1 : (Gs.length : Int) - (l1.length : Int) ≤ 100000 := by omega
  have hw2 : IntKind.i64.wrap ((Gs.length : Int) - (l1.length : Int)) = (Gs.length : Int) - (l1.length : Int) := IntWalk.i64_in _ (by omega)
  clear hz10 hb10 hg11
  refine wp_region_held_drew (S := fun w' => Blk w' w.heap.size #[.slice a2 l1.length c2, .slice a10 l3.length c10] tRBk ∧ w'.cell? ⟨w.heap.size, 0, none⟩ = some (.slice a2 l1.length c2)) (by kernel_rfl) (by (try dsimp only); exact ⟨hb11, hb11.cell 0 rfl⟩) (fun hHeld => ?_)
  refine wpAnyH_take (i := 0) (v := .agg #[.slice a2 l1.length c2, .slice a10 l3.length c10]) rfl (by kernel_rfl) (by kernel_rfl) (by kernel_rfl) (fun _ _ _ h => h) (yieldsIf_load_mid (by rfl) tRBk _ rfl w.heap.size 0 (by rfl) [.slice a2 l1.length c2, .slice a10 l3.length c10] _ (fun w h => h.1.range) undRBk rfl infoRBk) (by assumption) ?_
  (try simp only [List.getElem_toArray, List.getElem_cons_succ, List.getElem_cons_zero, Act.put, List.setIfInBounds_toArray, List.set_cons_zero, List.set_cons_succ])
  refine wpAnyH_take (i := 1) (v := ?_) rfl (by kernel_rfl) (by kernel_rfl) (by kernel_rfl) (fun _ _ _ h => h) (Or.inl ⟨by rfl, ?_⟩) (by assumption) ?_
  rotate_left
  · intro w hSw; (try dsimp only at hSw); go_simp; (try with_reducible rfl)
  (try simp only [List.getElem_toArray, List.getElem_cons_succ, List.getElem_cons_zero, Act.put, List.setIfInBounds_toArray, List.set_cons_zero, List.set_cons_succ])
  refine wpAnyH_take (i := 2) (v := ?_) rfl (by kernel_rfl) (by kernel_rfl) (by kernel_rfl) (fun _ _ _ h => h) (Or.inl ⟨by rfl, ?_⟩) (by assumption) ?_
  rotate_left
  · intro w hSw; (try dsimp only at hSw); go_simp; (try with_reducible rfl)
  (try simp only [List.getElem_toArray, List.getElem_cons_succ, List.getElem_cons_zero, Act.put, List.setIfInBounds_toArray, List.set_cons_zero, List.set_cons_succ])
  refine wpAnyH_take (i := 3) (v := ?_) rfl (by kernel_rfl) (by kernel_rfl) (by kernel_rfl) (fun _ _ _ h => h) (Or.inl ⟨by rfl, ?_⟩) (by assumption) ?_
  rotate_left
  · intro w hSw; (try dsimp only at hSw); go_simp; (try with_reducible rfl)
  (try simp only [List.getElem_toArray, List.getElem_cons_succ, List.getElem_cons_zero, Act.put, List.setIfInBounds_toArray, List.set_cons_zero, List.set_cons_succ])
  refine wpAnyH_take (i := 4) (v := ?_) rfl (by kernel_rfl) (by kernel_rfl) (by kernel_rfl) (fun _ _ _ h => h) (Or.inl ⟨by rfl, ?_⟩) (by assumption) ?_
  rotate_left
  · intro w hSw; (try dsimp only at hSw); go_simp; (try with_reducible rfl)
  (try simp only [List.getElem_toArray, List.getElem_cons_succ, List.getElem_cons_zero, Act.put, List.setIfInBounds_toArray, List.set_cons_zero, List.set_cons_succ])
  refine wpAnyH_take (i := 5) (v := ?_) rfl (by kernel_rfl) (by kernel_rfl) (by kernel_rfl) (fun _ _ _ h => h) (Or.inl ⟨by rfl, ?_⟩) (by assumption) ?_
  rotate_left
  · intro w hSw; (try dsimp only at hSw); go_simp; (try with_reducible rfl)
  (try simp only [List.getElem_toArray, List.getElem_cons_succ, List.getElem_cons_zero, Act.put, List.setIfInBounds_toArray, List.set_cons_zero, List.set_cons_succ])
  refine wpAnyH_ready (rs := [6]) (by kernel_rfl) (by simp) ?_
  refine AllReadyH.cons rfl (fun K hK => ?_) AllReadyH.nil
  refine step_put_blk rfl tRBk _ _ rfl _ rfl (show Blk w11.drew (w.heap.size + 1 + 1) #[.slice none 0 0, .slice none 0 0] tRBk from hz11) #[.slice a2 l1.length c2, .slice a10 l3.length c10] rfl rfl infoRBk (by simp [Value.oneCell']) ?_
  intro w12 hb12 hg12
  have e1 : Blk w12 w.heap.size #[.slice a2 l1.length c2, .slice a10 l3.length c10] tRBk := (show Blk w11.drew w.heap.size _ tRBk from hb11).grown hg12 (fun e => by have := Option.some.inj e; omega)
  refine hK.out _ _ (by (try dsimp only); exact ⟨e1, e1.cell 0 rfl⟩) (fun hHeld => ?_)
  clear hK K
  (try simp only [List.getElem_toArray, List.getElem_cons_succ, List.getElem_cons_zero, Act.put, List.setIfInBounds_toArray, List.set_cons_zero, List.set_cons_succ])
  refine wpAnyH_take (i := 7) (v := ?_) rfl (by kernel_rfl) (by kernel_rfl) (by kernel_rfl) (fun _ _ _ h => h) (Or.inl ⟨by rfl, ?_⟩) (by assumption) ?_
  rotate_left
  · intro w hSw; (try dsimp only at hSw); go_simp; (try with_reducible rfl)
  (try simp only [List.getElem_toArray, List.getElem_cons_succ, List.getElem_cons_zero, Act.put, List.setIfInBounds_toArray, List.set_cons_zero, List.set_cons_succ])
  refine wpAnyH_done (by kernel_rfl) ?_ _
  go_wp2
  refine bodyPost_ret (v := .tuple #[.agg #[.slice a2 l1.length c2, .slice a10 l3.length c10], .int .i64 ((Gs.length : Int) - (l1.length : Int))]) ?_ rfl ?_
  · exact results_cell2 4 tRBk 5 (w.heap.size + 1 + 1) Tryd.results17 rfl rfl (loadG_blk hb12 undRBk rfl infoRBk)
  · have hO12 := (show OwnG tGra 16 encGra w11.drew w5.heap.size _ l1 from hO11.out).past hg12 (by omega)
    have hP12 := (show OwnG tWaiR 13 encWai w11.drew w5.heap.size _ l3 from hP11.out).past hg12 (by omega)
    exact ⟨⟨_, _, rfl, hO12.base (fun g e => Nat.le_trans halH.out.size (hO12.lt g e).1), hP12.base (fun g e => Nat.le_trans halH.out.size (hP12.lt g e).1)⟩, below_only hB011.out.drew hg12 hB011.out.size (by omega)⟩
end Go.Proofs.YtchgpdgigpaloaaDoor
