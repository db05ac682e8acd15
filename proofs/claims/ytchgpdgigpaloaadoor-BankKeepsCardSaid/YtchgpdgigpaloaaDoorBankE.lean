/- The program's bank changed: what stands behind one change; Drop, Sweep. -/
import Derived.Test.YtchgpdgigpaloaaDoorBankD
import Derived.Test.YtchgpdgigpaloaaDoorRwG
import Derived.Test.YtchgpdgigpaloaaDoorRwW
namespace Go.Proofs.YtchgpdgigpaloaaDoor
set_option linter.unusedSimpArgs false
open Go.RowKit Go.Deep
/-- a bank in memory, its rows told -/
structure BankX (w : World) (b : Nat) (S : Nat → Prop) (vg vw : Value) (Gs : List Gra) (Ws : List Wai) : Prop where
  blk : Blk w b #[vg, vw] tBank
  og : OwnG tGra 16 encGra w 0 vg Gs
  ow : OwnG tWai 13 encWai w 0 vw Ws
  sg : ∀ g, vg.ownBlock = some g → S g
  sw : ∀ g, vw.ownBlock = some g → S g
  ing : ∀ g ∈ Gs, g.In w S
  inw : ∀ x ∈ Ws, x.In w S
  sb : S b
  bd : ∀ i, S i → i < w.heap.size
theorem BankR.x {w : World} {b : Nat} {S : Nat → Prop} {gs : List GraD} {ws : List WaiD} (h : BankR w b S gs ws) : ∃ vg vw Gs Ws, BankX w b S vg vw Gs Ws ∧ Gs.map Gra.d = gs ∧ Ws.map Wai.d = ws := by
  obtain ⟨vg, vw, Gs, Ws, h1, h2, h3, h4, h5, h6, h7, h8, h9⟩ := h.box
  exact ⟨vg, vw, Gs, Ws, ⟨h1, h2, h3, h4, h5, h8, h9, h.sb, h.bd⟩, h6, h7⟩
theorem BankX.r {w : World} {b : Nat} {S : Nat → Prop} {vg vw : Value} {Gs : List Gra} {Ws : List Wai} (h : BankX w b S vg vw Gs Ws) (hg : ∀ g ∈ Gs.map Gra.d, g.Ok) (hw : ∀ x ∈ Ws.map Wai.d, x.Ok) : BankR w b S (Gs.map Gra.d) (Ws.map Wai.d) :=
  ⟨⟨vg, vw, Gs, Ws, h.blk, h.og, h.ow, h.sg, h.sw, rfl, rfl, h.ing, h.inw⟩, h.sb, h.bd, hg, hw⟩
theorem BankX.later {w w' : World} {b : Nat} {S : Nat → Prop} {vg vw : Value} {Gs : List Gra} {Ws : List Wai} (h : BankX w b S vg vw Gs Ws) (hb : Below w.heap.size w w') : BankX w' b S vg vw Gs Ws :=
  ⟨h.blk.later hb, h.og.later hb, h.ow.later hb, h.sg, h.sw, fun g hg => (h.ing g hg).later hb, fun g hg => (h.inw g hg).later hb, h.sb, fun i hi => Nat.lt_of_lt_of_le (h.bd i hi) hb.size⟩
theorem BankX.mono {w : World} {b : Nat} {S S' : Nat → Prop} {vg vw : Value} {Gs : List Gra} {Ws : List Wai} (h : BankX w b S vg vw Gs Ws) (hs : ∀ i, S i → S' i) (hd : ∀ i, S' i → i < w.heap.size) : BankX w b S' vg vw Gs Ws :=
  ⟨h.blk, h.og, h.ow, fun g hg => hs g (h.sg g hg), fun g hg => hs g (h.sw g hg), fun g hg => (h.ing g hg).mono hs, fun g hg => (h.inw g hg).mono hs, hs b h.sb, hd⟩
/-- a row of grants, or of what is waited for, is no row of texts -/
theorem noTxt_blk {w : World} {p : Nat} {cs : Array Value} {T : TypeId} (hb : Blk w p cs T) (hT : T ≠ 9) : noTxt w p := by
  intro cur fz hc
  unfold Blk at hb
  rw [hb] at hc
  have := Option.some.inj hc
  injection this with _ h3 _
  exact hT h3
/-- the grants are others now -/
theorem BankX.turnG {wr wx w3 : World} {b : Nat} {S : Nat → Prop} {vg vg' vw : Value} {Gs Gs' : List Gra} {Ws : List Wai} (h : BankX wr b S vg vw Gs Ws) (ho : Only (fun i => vg.ownBlock = some i) wr wx) (hO' : OwnG tGra 16 encGra wx 0 vg' Gs') (hw : ∀ g, vg'.ownBlock = some g → vg.ownBlock = some g ∨ wr.heap.size ≤ g) (hin : ∀ g ∈ Gs', g.In wx (grow S wr wx))
    (hb : Blk w3 b #[vg', vw] tBank) (hg : wx.grownBy w3 (some b)) : BankX w3 b (grow S wr w3) vg' vw Gs' Ws ∧ OnlyT S wr w3 := by
  have hb1 : Blk wx b #[vg, vw] tBank := ho.blk h.blk (h.og.apart (by decide) h.blk)
  have ho3 : Only (fun i => i = b) wx w3 := Only.of_grown hg (fun i e => (Option.some.inj e).symm)
  have hs1 := ho.size
  have hs3 := ho3.size
  have hon : OnlyT S wr w3 := (ho.mono (T := fun i => S i ∧ noTxt wr i) (fun i e => ⟨h.sg i e, fun cur fz hc => txt_apart (by decide) h.og hc e⟩)).trans (ho3.mono (fun i e => ⟨by rw [e]; exact h.sb, by rw [e]; exact noTxt_blk h.blk (by decide)⟩))
  have hbg : grow S wr w3 b := ⟨.inl h.sb, hb.lt⟩
  refine ⟨⟨hb, hO'.kept ho3 (fun g e1 e2 => hO'.apart (by decide) hb1 (by rw [e1, e2])), ?_, ?_, ?_, ?_, ?_, hbg, fun i hi => hi.2⟩, hon⟩
  · refine (h.ow.kept ho (fun g e1 e2 => ?_)).kept ho3 (fun g e1 e2 => h.ow.apart (by decide) h.blk (by rw [e1, e2]))
    rcases RowB.of_own encGra_len h.og with ⟨hv, _⟩ | ⟨g0, cap, hv, _, hR⟩
    · rw [hv] at e2; cases e2
    · rw [hv] at e2
      have e3 : g0 = g := Option.some.inj e2
      obtain ⟨cur, hcur, _⟩ := hR.heap
      rw [e3] at hcur
      exact h.ow.apart (T' := tGra) (by decide) (show Blk wr g cur tGra from hcur) e1
  · intro g hg2
    refine ⟨?_, ?_⟩
    · rcases hw g hg2 with e | e
      · exact .inl (h.sg g e)
      · exact .inr e
    · have := (hO'.lt g hg2).2; omega
  · intro g hg2
    exact ⟨.inl (h.sw g hg2), by have := h.bd g (h.sw g hg2); omega⟩
  · intro g hg2
    have h1 := hin g hg2
    exact (h1.stays (S2 := grow S wr w3) (ho3.mono (T := fun i => (fun _ => True) i ∧ noTxt wx i) (fun i e => ⟨trivial, by rw [e]; exact noTxt_blk hb1 (by decide)⟩)) (fun i hi _ => ⟨hi.1, by have := hi.2; omega⟩))
  · intro g hg2
    exact (h.inw g hg2).stays hon (fun i hi hl => ⟨.inl hi, by omega⟩)
/-- what is waited for is other now -/
theorem BankX.turnW {wr wx w3 : World} {b : Nat} {S : Nat → Prop} {vg vw vw' : Value} {Gs : List Gra} {Ws Ws' : List Wai} (h : BankX wr b S vg vw Gs Ws) (ho : Only (fun i => vw.ownBlock = some i) wr wx) (hO' : OwnG tWai 13 encWai wx 0 vw' Ws') (hw : ∀ g, vw'.ownBlock = some g → vw.ownBlock = some g ∨ wr.heap.size ≤ g) (hin : ∀ g ∈ Ws', g.In wx (grow S wr wx))
    (hb : Blk w3 b #[vg, vw'] tBank) (hg : wx.grownBy w3 (some b)) : BankX w3 b (grow S wr w3) vg vw' Gs Ws' ∧ OnlyT S wr w3 := by
  have hb1 : Blk wx b #[vg, vw] tBank := ho.blk h.blk (h.ow.apart (by decide) h.blk)
  have ho3 : Only (fun i => i = b) wx w3 := Only.of_grown hg (fun i e => (Option.some.inj e).symm)
  have hs1 := ho.size
  have hs3 := ho3.size
  have hon : OnlyT S wr w3 := (ho.mono (T := fun i => S i ∧ noTxt wr i) (fun i e => ⟨h.sw i e, fun cur fz hc => txt_apart (by decide) h.ow hc e⟩)).trans (ho3.mono (fun i e => ⟨by rw [e]; exact h.sb, by rw [e]; exact noTxt_blk h.blk (by decide)⟩))
  have hbg : grow S wr w3 b := ⟨.inl h.sb, hb.lt⟩
  refine ⟨⟨hb, ?_, hO'.kept ho3 (fun g e1 e2 => hO'.apart (by decide) hb1 (by rw [e1, e2])), ?_, ?_, ?_, ?_, hbg, fun i hi => hi.2⟩, hon⟩
  · refine (h.og.kept ho (fun g e1 e2 => ?_)).kept ho3 (fun g e1 e2 => h.og.apart (by decide) h.blk (by rw [e1, e2]))
    rcases RowB.of_own encWai_len h.ow with ⟨hv, _⟩ | ⟨g0, cap, hv, _, hR⟩
    · rw [hv] at e2; cases e2
    · rw [hv] at e2
      have e3 : g0 = g := Option.some.inj e2
      obtain ⟨cur, hcur, _⟩ := hR.heap
      rw [e3] at hcur
      exact h.og.apart (T' := tWai) (by decide) (show Blk wr g cur tWai from hcur) e1
  · intro g hg2
    exact ⟨.inl (h.sg g hg2), by have := h.bd g (h.sg g hg2); omega⟩
  · intro g hg2
    refine ⟨?_, ?_⟩
    · rcases hw g hg2 with e | e
      · exact .inl (h.sw g e)
      · exact .inr e
    · have := (hO'.lt g hg2).2; omega
  · intro g hg2
    exact (h.ing g hg2).stays hon (fun i hi hl => ⟨.inl hi, by omega⟩)
  · intro g hg2
    have h1 := hin g hg2
    exact (h1.stays (S2 := grow S wr w3) (ho3.mono (T := fun i => (fun _ => True) i ∧ noTxt wx i) (fun i e => ⟨trivial, by rw [e]; exact noTxt_blk hb1 (by decide)⟩)) (fun i hi _ => ⟨hi.1, by have := hi.2; omega⟩))
set_option maxRecDepth 100000 in
set_option maxHeartbeats 2000000 in
theorem bankDrop1 (x : Gra) (o : Org) (p : Bool) (r : ByteArray) (q0 q1 q2 : Nat) (w : World) (h0 : Blk w q0 (orgArr o) 32) (h1 : Blk w q1 #[.bool p] 4) (h2 : Blk w q2 #[.string r] 9) :
    Calls Tryd.prog 39 #[.agg x.arr, .pointer (some ⟨q0, 0, none⟩), .pointer (some ⟨q1, 0, none⟩), .pointer (some ⟨q2, 0, none⟩)] w fun e w' => e = .returned (.bool (keyG o p r x.d)) ∧ Below w.heap.size w w' := by
  have hal := (Below.refl w.heap.size w).alloc (Nat.le_refl _) (.cells x.arr tGra)
  have hx1 := Blk.new w x.arr tGra
  have hq0 := h0.later hal
  have c1 : _ = some (Value.bool p) := (h1.later hal).cell 0 rfl
  have c2 : _ = some (Value.string r) := (h2.later hal).cell 0 rfl
  have hsa := bankSame x o p r (w.alloc (.cells x.arr tGra))
  have hH := Lib.hid hal
  generalize keyG o p r x.d = res at hsa ⊢
  clear hal h0 h1 h2
  go_enter Tryd.func39, Tryd.ntmps39
  go_wp2_with (first
    | (refine wpList_load_blk rfl tGra _ rfl _ rfl hx1 _ undGra rfl infoGra ?_)
    | (refine wpList_load_blk rfl 32 _ rfl _ rfl hq0 _ Tryd.underlying32 rfl infoOrgB ?_)
    | (go_at_call 40; refine hsa.mono ?_; rintro e w1 ⟨rfl, hB1⟩))
  go_ret
  exact ⟨rfl, hH.out.then (Nat.le_refl _) hB1⟩
end Go.Proofs.YtchgpdgigpaloaaDoor
