/- The program's bank: Drop, Sweep. -/
import Derived.Test.YtchgpdgigpaloaaDoorBankE
namespace Go.Proofs.YtchgpdgigpaloaaDoor
set_option linter.unusedSimpArgs false
open Go.RowKit Go.Deep
theorem map_keep {f : GraD → Bool} (Gs : List Gra) : (Gs.filter (fun x => !f x.d)).map Gra.d = (Gs.map Gra.d).filter (fun g => !f g) := by
  rw [List.filter_map]
  rfl
theorem map_keepW {f : WaiD → Bool} (Ws : List Wai) : (Ws.filter (fun x => !f x.d)).map Wai.d = (Ws.map Wai.d).filter (fun g => !f g) := by
  rw [List.filter_map]
  rfl
theorem own_same {v v' : Value} {w : World} (h : v'.ownBlock = v.ownBlock) : ∀ g, v'.ownBlock = some g → v.ownBlock = some g ∨ w.heap.size ≤ g := fun g hg => .inl (by rw [← h]; exact hg)
/-- those left of a row are where they were -/
theorem in_left {wr wx : World} {S : Nat → Prop} {vg : Value} {Gs : List Gra} {f : Gra → Bool} (hO : OwnG tGra 16 encGra wr 0 vg Gs) (hin : ∀ g ∈ Gs, g.In wr S) (hbd : ∀ i, S i → i < wr.heap.size) (ho : Only (fun i => vg.ownBlock = some i) wr wx) : ∀ g ∈ Gs.filter f, g.In wx (grow S wr wx) := fun g hg =>
  ((hin g (List.mem_filter.1 hg).1).own (by decide) hO ho).mono (fun i hi => ⟨.inl hi, Nat.lt_of_lt_of_le (hbd i hi) ho.size⟩)
theorem in_leftW {wr wx : World} {S : Nat → Prop} {vg : Value} {Gs : List Wai} {f : Wai → Bool} (hO : OwnG tWai 13 encWai wr 0 vg Gs) (hin : ∀ g ∈ Gs, g.In wr S) (hbd : ∀ i, S i → i < wr.heap.size) (ho : Only (fun i => vg.ownBlock = some i) wr wx) : ∀ g ∈ Gs.filter f, g.In wx (grow S wr wx) := fun g hg =>
  ((hin g (List.mem_filter.1 hg).1).own (by decide) hO ho).mono (fun i hi => ⟨.inl hi, Nat.lt_of_lt_of_le (hbd i hi) ho.size⟩)
theorem infoGrantsF : (Tryd.prog.info? 24).map (·.size) = some 1 := by kernel_rfl
theorem infoWaitsF : (Tryd.prog.info? 25).map (·.size) = some 1 := by kernel_rfl
def DropPost (o : Org) (p : Bool) (r : ByteArray) (b : Nat) (S : Nat → Prop) (gs : List GraD) (ws : List WaiD) (w : World) (e : Ending) (w' : World) : Prop :=
  e = .returned (.bool (decide ((bankDrop o p r gs).length < gs.length))) ∧ BankR w' b (grow S w w') (bankDrop o p r gs) ws ∧ OnlyT S w w'
set_option maxRecDepth 100000 in
set_option maxHeartbeats 4000000 in
theorem bankDropP (b : Nat) (S : Nat → Prop) (gs : List GraD) (ws : List WaiD) (o : Org) (p : Bool) (r : ByteArray) (w : World) (hB : BankR w b S gs ws) (hl : gs.length ≤ 100000) :
    Calls Tryd.prog 11 #[.pointer (some ⟨b, 0, none⟩), .agg (orgArr o), .bool p, .string r] w (DropPost o p r b S gs ws w) := by
  have hokG := hB.okG
  have hokW := hB.okW
  obtain ⟨vg, vw, Gs, Ws, hX, rfl, rfl⟩ := hB.x
  rw [List.length_map] at hl
  clear hB
  have hal := (((Below.refl w.heap.size w).alloc (Nat.le_refl _) (.cells (orgArr o) 32)).alloc (by simp) (.cells #[.bool p] 4)).alloc (by simp; omega) (.cells #[.string r] 9)
  have hq0 := ((Blk.new w (orgArr o) 32).alloc (.cells #[.bool p] 4)).alloc (.cells #[.string r] 9)
  have hq1 := (Blk.new (w.alloc (.cells (orgArr o) 32)) #[.bool p] 4).alloc (.cells #[.string r] 9)
  have hq2 := Blk.new ((w.alloc (.cells (orgArr o) 32)).alloc (.cells #[.bool p] 4)) #[.string r] 9
  simp only [World.size_alloc] at hq1 hq2
  have hrX : Hid ((Gs.filter (fun x => !keyG o p r x.d)).map Gra.d = bankDrop o p r (Gs.map Gra.d)) := Lib.hid (map_keep Gs)
  have hlen : Hid ((bankDrop o p r (Gs.map Gra.d)).length = (Gs.filter (fun x => !keyG o p r x.d)).length) := Lib.hid (by rw [← hrX.out, List.length_map])
  have hlf : (Gs.filter (fun x => !keyG o p r x.d)).length ≤ Gs.length := List.length_filter_le _ _
  have hokg2 : Hid (∀ g ∈ (Gs.filter (fun x => !keyG o p r x.d)).map Gra.d, g.Ok) := Lib.hid (by
    rw [hrX.out]
    intro g hg
    exact hokG g (List.mem_filter.1 hg).1)
  have hokw2 := Lib.hid hokW
  have hXH := Lib.hid hX
  go_enter Tryd.func11, Tryd.ntmps11
  go_upto_region 1 with (fail)
  generalize ((w.alloc (.cells (orgArr o) 32)).alloc (.cells #[.bool p] 4)).alloc (.cells #[.string r] 9) = w1 at hal hq0 hq1 hq2 ⊢
  have hX1 := Lib.hid (hX.later hal)
  have hB1 := Lib.hid hal
  obtain ⟨a1, cap1, rfl, _⟩ := OwnG.shape encGra_len hX.og
  have c0 : _ = some (Value.slice a1 Gs.length cap1) := hX1.out.blk.cell 0 rfl
  have hdel := deleteFuncG 39 #[.pointer (some ⟨w.heap.size, 0, none⟩), .pointer (some ⟨w.heap.size + 1, 0, none⟩), .pointer (some ⟨w.heap.size + 1 + 1, 0, none⟩)] (fun x => keyG o p r x.d) 0 _ Gs w1 hX1.out.og (by omega) (fun _ _ => rfl) (fun W x ho _ =>
    bankDrop1 x o p r _ _ _ W (ho.blk hq0 (hX1.out.og.apart (by decide) hq0)) (ho.blk hq1 (hX1.out.og.apart (by decide) hq1)) (ho.blk hq2 (hX1.out.og.apart (by decide) hq2)))
  generalize hGs' : Gs.filter (fun x => !keyG o p r x.d) = Gs' at hdel hrX hlen hlf hokg2
  have hsub : Hid (∀ wx, Only (fun i => (Value.slice a1 Gs.length cap1).ownBlock = some i) w1 wx → ∀ g ∈ Gs', g.In wx (grow S w1 wx)) := Lib.hid (by
    subst hGs'
    exact fun wx ho => in_left hX1.out.og hX1.out.ing hX1.out.bd ho)
  clear hq0 hq1 hq2 hX hal hGs' hokG hokW
  go_wp2_with fail
  refine hdel.mono ?_
  rintro e w2 ⟨v2, rfl, hO2, ho2, hb2⟩
  obtain ⟨a2, cap2, rfl, hsh2⟩ := OwnG.shape encGra_len hO2
  have hbx : Blk w2 b #[.slice a1 Gs.length cap1, vw] tBank := ho2.blk hX1.out.blk (hX1.out.og.apart (by decide) hX1.out.blk)
  have hO2h := Lib.hid hO2
  have ho2h := Lib.hid ho2
  have hb2h := Lib.hid hb2
  clear hdel c0 hO2 ho2 hb2 hsh2
  go_upto_region 3 with (refine wpList_store_cell rfl _ _ _ (by rfl) b 0 (by rfl) hbx (by decide : 0 < 2) (.slice a2 Gs'.length cap2) (by rfl) (by rfl) (by rfl) infoGrantsF ?_; intro w3 hb3 hg3)
  have hb3' : Blk w3 b #[.slice a2 Gs'.length cap2, vw] tBank := hb3
  have hX3 := Lib.hid (hX1.out.turnG ho2h.out hO2h.out (own_same hb2h.out) (hsub.out w2 ho2h.out) hb3' hg3)
  have c1 : _ = some (Value.slice a2 Gs'.length cap2) := hb3'.cell 0 rfl
  have hs1 := hB1.out.size
  have hs3 := hX3.out.2.size
  clear hb3 hg3 hbx
  go_wp2
  go_ret
  refine ⟨?_, ?_, ?_⟩
  · rw [hlen.out, List.length_map]
    simp
  · rw [← hrX.out]
    refine (hX3.out.1.mono (S' := grow S w w3) ?_ (fun i hi => hi.2)).r hokg2.out hokw2.out
    rintro i ⟨h1 | h1, h2⟩
    · exact ⟨.inl h1, h2⟩
    · exact ⟨.inr (by omega), h2⟩
  · refine OnlyT.trans (OnlyT.of_below hB1.out) (hX3.out.2.mono ?_)
    rintro i ⟨h1, h2⟩
    exact ⟨⟨.inl h1, by have := hX1.out.bd i h1; omega⟩, h2⟩
end Go.Proofs.YtchgpdgigpaloaaDoor
