/- The reference's bank: Put. -/
import Derived.Test.YtchgpdgigpaloaaDoorRbA
namespace Go.Proofs.YtchgpdgigpaloaaDoor
set_option linter.unusedSimpArgs false
open Go.RowKit Go.Deep
set_option maxRecDepth 100000 in
set_option maxHeartbeats 4000000 in
theorem refBankPut (a : Option Addr) (cap : Nat) (Gs : List Gra) (wa : Option Addr) (wn wc : Nat) (g : Gra) (w : World) (hS : RowAt 16 encGra w a Gs) (hl : Gs.length ≤ 100000) :
    Calls Tryd.prog 5 #[.agg #[.slice a Gs.length cap, .slice wa wn wc], .agg g.arr] w (RbG (lastB 8 (Gs.filter (fun x => !keyG g.orig g.proxy g.ask.d.realm x.d) ++ [g])) wa wn wc w) := by
  have hal : Below w.heap.size w (((w.alloc (.cells #[.slice a Gs.length cap, .slice wa wn wc] tRBk)).alloc (.cells g.arr tGra)).alloc (.cells #[.slice none 0 0, .slice none 0 0] tRBk)) := ((((Below.refl w.heap.size w).alloc (by simp; try omega) (.cells #[.slice a Gs.length cap, .slice wa wn wc] tRBk)).alloc (by simp; try omega) (.cells g.arr tGra)).alloc (by simp; try omega) (.cells #[.slice none 0 0, .slice none 0 0] tRBk))
  have hqb := (((Blk.new w #[.slice a Gs.length cap, .slice wa wn wc] tRBk).alloc (.cells g.arr tGra)).alloc (.cells #[.slice none 0 0, .slice none 0 0] tRBk))
  have hqg := ((Blk.new (w.alloc (.cells #[.slice a Gs.length cap, .slice wa wn wc] tRBk)) g.arr tGra).alloc (.cells #[.slice none 0 0, .slice none 0 0] tRBk))
  have hqz := (Blk.new ((w.alloc (.cells #[.slice a Gs.length cap, .slice wa wn wc] tRBk)).alloc (.cells g.arr tGra)) #[.slice none 0 0, .slice none 0 0] tRBk)
  simp only [World.size_alloc] at hqg hqz
  have hsmK := fun w5 hS => refBankDrop a cap Gs wa wn wc g.orig g.proxy g.ask.d.realm w5 hS (by omega)
  have hlf : (Gs.filter (fun x => !keyG g.orig g.proxy g.ask.d.realm x.d)).length ≤ Gs.length := List.length_filter_le _ _
  generalize Gs.filter (fun x => !keyG g.orig g.proxy g.ask.d.realm x.d) = l2 at hsmK hlf ⊢
  have hl1 : l2.length + 1 ≤ maxLen := by unfold maxLen; omega
  have hl2 : (l2.length + 1) * 216 ≤ 140737488355328 := by omega
  have hl4 : (l2 ++ [g]).length ≤ 1048576 := by rw [List.length_append]; have : [g].length = 1 := rfl; omega
  obtain ⟨l29, hl29⟩ : ∃ l29, Hid (l29 = l2 ++ [g]) := ⟨_, Lib.hid rfl⟩
  rw [← hl29.out] at hl4 ⊢
  obtain ⟨l3, hl3⟩ : ∃ l3, Hid (l3 = lastB 8 l29) := ⟨_, Lib.hid rfl⟩
  rw [← hl3.out]
  go_enter Tryd.func5, Tryd.ntmps5
  go_upto_region 1 with (fail)
  generalize (((w.alloc (.cells #[.slice a Gs.length cap, .slice wa wn wc] tRBk)).alloc (.cells g.arr tGra)).alloc (.cells #[.slice none 0 0, .slice none 0 0] tRBk)) = w5 at hal hqb hqg hqz ⊢
  have hsm := hsmK w5 (hS.later hal)
  have hro := rngO hqg
  have k3 : _ = some (Value.bool g.proxy) := hqg.cell 3 rfl
  have k7 : _ = some (Value.string g.ask.d.realm) := hqg.cell 7 rfl
  have halH := Lib.hid hal
  have hzl := hqz.lt
  clear hS hal hsmK
  go_wp2_with (first
    | (refine wpList_load_blk rfl tRBk _ rfl _ rfl hqb _ undRBk rfl infoRBk ?_)
    | (refine wpList_load_mid rfl 32 _ rfl (w.heap.size + 1) 0 rfl [.bool g.orig.sec, .string g.orig.host, .int .i64 g.orig.port] _ hro Tryd.underlying32 rfl infoOrgB ?_))
  refine hsm.mono ?_
  rintro e w6 ⟨⟨v, rfl, hO⟩, hB6⟩
  obtain ⟨a2, c2, rfl, _⟩ := OwnG.shape encGra_len hO
  have hqb6 := hqb.later hB6
  have hqg6 := hqg.later hB6
  have hqz6 := hqz.later hB6
  have hB06 := Lib.hid (halH.out.then (Nat.le_refl _) hB6)
  have hs56 := hB6.size
  have hOh := Lib.hid hO
  clear hO hB6 hsm k3 k7 hro hqb hqz hqg
  go_upto_region 2 with (refine wpList_store_blk rfl tRBk _ _ rfl _ rfl hqb6 #[.slice a2 l2.length c2, .slice wa wn wc] rfl rfl infoRBk (by simp [Value.oneCell']) ?_; intro w7 hb7 hg7)
  have hqz7 := hqz6.grown hg7 (fun e => by have := Option.some.inj e; omega)
  have hqg7 := hqg6.grown hg7 (fun e => by have := Option.some.inj e; omega)
  have hO7 := hOh.out.past hg7 (by omega)
  have hO7H := Lib.hid hO7
  have hB07 := Lib.hid (below_only hB06.out hg7 hB06.out.size (Nat.le_refl _))
  have hs5 : w5.heap.size ≤ w7.heap.size := Nat.le_trans hs56 hg7.size
  have c0 : _ = some (Value.slice a2 l2.length c2) := hb7.cell 0 rfl
  have hb7H := Lib.hid hb7
  have hqz7H := Lib.hid hqz7
  clear hqz6 hqg6 hqb6 hg7 hb7 hqz7
  go_wp2_with (first
    | (refine wpList_load_blk rfl tGra _ rfl _ rfl hqg7 _ undGra rfl infoGra ?_)
    | (at_builtin; refine wpList_append_one wholeGD Tryd.underlying24 (by rfl) (by decide) encGra_len (by rfl) _ _ (by rfl) w7 w5.heap.size (.slice a2 l2.length c2) l2 (by rfl) hO7 g (encGra_one _) _ (by rfl) _ (by rfl) (by rfl) hl1 hl2 hs5 ?_; intro v9 w9 hO9 hG9 hne9; rw [← hl29.out] at hO9; obtain ⟨a9, c9, rfl, _⟩ := OwnG.shape encGra_len hO9; clear hne9 hqg7 c0))
  have hb9 := (hb7H.out.alloc (.cells g.arr tGra)).grown hG9 (fun e => by have := (hO7H.out.lt _ e).1; omega)
  have hqz9 := (hqz7H.out.alloc (.cells g.arr tGra)).grown hG9 (fun e => by have := (hO7H.out.lt _ e).1; omega)
  have hB09 := Lib.hid (below_append hB07.out (hO7H.out.base (B' := w.heap.size) (fun k e => by have := (hO7H.out.lt k e).1; omega)) hG9 hB07.out.size)
  have hs9 : w5.heap.size ≤ w9.heap.size := by have := hG9.size; simp at this; omega
  have hla := lastOfG 8 w5.heap.size _ l29 w9 hO9 hs9 hl4 (by decide)
  rw [show ((8 : Nat) : Int) = 8 from rfl] at hla
  clear hO7 hO9 hG9
  go_wp2_with fail
  refine hla.mono ?_
  rintro e w10 ⟨⟨v10, rfl, hO10⟩, hB10⟩
  rw [← hl3.out] at hO10
  obtain ⟨a10, c10, rfl, _⟩ := OwnG.shape encGra_len hO10
  have hb10 := hb9.later hB10
  have hqz10 := Lib.hid (hqz9.later hB10)
  have hB010 := Lib.hid (hB09.out.then (Nat.le_refl _) hB10)
  have hO10h := Lib.hid hO10
  clear hO10 hB10 hla hb9 hqz9
  go_upto_region 3 with (refine wpList_store_cell rfl _ _ _ (by rfl) w.heap.size 0 (by rfl) hb10 (by decide : 0 < 2) (.slice a10 l3.length c10) (by rfl) (by rfl) (by rfl) infoGrantsR ?_; intro w11 hb11 hg11)
  have hb11' : Blk w11 w.heap.size #[.slice a10 l3.length c10, .slice wa wn wc] tRBk := hb11
  have hqz11 := hqz10.out.grown hg11 (fun e => by have := Option.some.inj e; omega)
  have hO11 := Lib.hid (hO10h.out.past hg11 (by omega))
  have hB011 := Lib.hid (below_only hB010.out hg11 hB010.out.size (Nat.le_refl _))
  clear hb11 hb10 hg11
  go_wp2_with (first
    | (refine wpList_load_blk rfl tRBk _ rfl _ rfl hb11' _ undRBk rfl infoRBk ?_)
    | (refine wpList_store_blk rfl tRBk _ _ rfl _ rfl hqz11 #[.slice a10 l3.length c10, .slice wa wn wc] rfl rfl infoRBk (by simp [Value.oneCell']) ?_; intro w12 hb12 hg12))
  refine bodyPost_ret (v := .agg #[.slice a10 l3.length c10, .slice wa wn wc]) ?_ rfl ?_
  · exact results_cell1 4 tRBk (w.heap.size + 1 + 1) Tryd.results5 rfl (loadG_blk hb12 undRBk rfl infoRBk)
  · have hO12 := hO11.out.past hg12 (by omega)
    exact ⟨⟨_, rfl, hO12.base (fun g e => Nat.le_trans halH.out.size (hO12.lt g e).1)⟩, below_only hB011.out hg12 hB011.out.size (by omega)⟩
end Go.Proofs.YtchgpdgigpaloaaDoor
