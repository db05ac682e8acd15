/- Operations of a bank as arguments; what stands while they are done. -/
import Derived.Test.YtchgpdgigpaloaaDoorSameB
import Derived.Test.YtchgpdgigpaloaaDoorRbD
import Derived.Test.YtchgpdgigpaloaaDoorRbP
import Derived.Test.YtchgpdgigpaloaaDoorRbQ
import Derived.Test.YtchgpdgigpaloaaDoorRbS
import Derived.Test.YtchgpdgigpaloaaDoorFound
import Derived.OpenShut
namespace Go.Proofs.YtchgpdgigpaloaaDoor
set_option linter.unusedSimpArgs false
open Go.ChangeShapes Go.WideShapes Go.ChangeAt Go.RowKit Go.WideElems Go.Deep
/-- a grant of the reference's -/
structure RGr (W w : World) (g : Gra) : Prop where
  dom : TxtK W w g.ask.addr g.ask.d.domain
  pth : TxtK W w g.addr g.paths
  ok : g.d.Ok
structure RWr (W w : World) (g : Wai) : Prop where
  dom : TxtK W w g.ask.addr g.ask.d.domain
  ok : g.d.Ok
theorem RGr.later {W w w' : World} {g : Gra} (h : RGr W w g) (hb : Below w.heap.size w w') : RGr W w' g := ⟨h.dom.later hb, h.pth.later hb, h.ok⟩
theorem RWr.later {W w w' : World} {g : Wai} (h : RWr W w g) (hb : Below w.heap.size w w') : RWr W w' g := ⟨h.dom.later hb, h.ok⟩
theorem RGr.stays {W w w' : World} {g : Gra} {S : Nat → Prop} (h : RGr W w g) (ho : OnlyT S w w') (hS : ∀ i, S i → W.heap.size ≤ i) : RGr W w' g := ⟨h.dom.stays ho hS, h.pth.stays ho hS, h.ok⟩
theorem RWr.stays {W w w' : World} {g : Wai} {S : Nat → Prop} (h : RWr W w g) (ho : OnlyT S w w') (hS : ∀ i, S i → W.heap.size ≤ i) : RWr W w' g := ⟨h.dom.stays ho hS, h.ok⟩
theorem RGr.tx {W w : World} {g : Gra} (h : RGr W w g) : g.Tx w := ⟨h.dom.1, h.pth.1, h.ok.l1, h.ok.l2⟩
theorem RWr.tx {W w : World} {g : Wai} (h : RWr W w g) : g.Tx w := ⟨h.dom.1, h.ok.l1⟩
/-- the reference's bank in memory -/
structure RBk (W wr : World) (S : Nat → Prop) (ga : Option Addr) (gc : Nat) (Gs : List Gra) (wa : Option Addr) (Ws : List Wai) : Prop where
  rg : RowAt 16 encGra wr ga Gs
  rw : RowAt 13 encWai wr wa Ws
  cap : Gs.length ≤ gc
  farg : ∀ x, ga = some x → ¬ S x.block ∧ x.block < wr.heap.size
  farw : ∀ x, wa = some x → ¬ S x.block ∧ x.block < wr.heap.size
  tg : ∀ g ∈ Gs, RGr W wr g
  tw : ∀ g ∈ Ws, RWr W wr g
theorem RBk.later {W wr wx : World} {S : Nat → Prop} {ga wa : Option Addr} {gc : Nat} {Gs : List Gra} {Ws : List Wai} (h : RBk W wr S ga gc Gs wa Ws) (hb : Below wr.heap.size wr wx) : RBk W wx S ga gc Gs wa Ws :=
  ⟨h.rg.later hb, h.rw.later hb, h.cap, fun x hx => ⟨(h.farg x hx).1, Nat.lt_of_lt_of_le (h.farg x hx).2 hb.size⟩, fun x hx => ⟨(h.farw x hx).1, Nat.lt_of_lt_of_le (h.farw x hx).2 hb.size⟩, fun g hg => (h.tg g hg).later hb, fun g hg => (h.tw g hg).later hb⟩
theorem RBk.prog {W wr wx : World} {S : Nat → Prop} {ga wa : Option Addr} {gc : Nat} {Gs : List Gra} {Ws : List Wai} (h : RBk W wr S ga gc Gs wa Ws) (ho : OnlyT S wr wx) (hS : ∀ i, S i → W.heap.size ≤ i) : RBk W wx (grow S wr wx) ga gc Gs wa Ws := by
  refine ⟨ho.only.rowAt h.rg (fun x hx => (h.farg x hx).1), ho.only.rowAt h.rw (fun x hx => (h.farw x hx).1), h.cap, ?_, ?_, fun g hg => (h.tg g hg).stays ho hS, fun g hg => (h.tw g hg).stays ho hS⟩
  · intro x hx
    obtain ⟨h1, h2⟩ := h.farg x hx
    refine ⟨?_, Nat.lt_of_lt_of_le h2 ho.size⟩
    rintro ⟨h3 | h3, _⟩
    · exact h1 h3
    · omega
  · intro x hx
    obtain ⟨h1, h2⟩ := h.farw x hx
    refine ⟨?_, Nat.lt_of_lt_of_le h2 ho.size⟩
    rintro ⟨h3 | h3, _⟩
    · exact h1 h3
    · omega
/-- the reference's bank is another: rows that lay, or that were made since -/
theorem RBk.turn {W wr wx : World} {S : Nat → Prop} {ga wa ga' wa' : Option Addr} {gc gc' : Nat} {Gs Gs' : List Gra} {Ws Ws' : List Wai} (h : RBk W wr S ga gc Gs wa Ws) (hb : Below wr.heap.size wr wx) (hbd : ∀ i, S i → i < wr.heap.size)
    (rg : RowAt 16 encGra wx ga' Gs') (rw : RowAt 13 encWai wx wa' Ws') (cap : Gs'.length ≤ gc') (fg : ga' = ga ∨ ∀ x, ga' = some x → wr.heap.size ≤ x.block ∧ x.block < wx.heap.size) (fw : wa' = wa ∨ ∀ x, wa' = some x → wr.heap.size ≤ x.block ∧ x.block < wx.heap.size)
    (tg : ∀ g ∈ Gs', RGr W wx g) (tw : ∀ g ∈ Ws', RWr W wx g) : RBk W wx S ga' gc' Gs' wa' Ws' := by
  refine ⟨rg, rw, cap, ?_, ?_, tg, tw⟩
  · intro x hx
    rcases fg with rfl | fg
    · exact ⟨(h.farg x hx).1, Nat.lt_of_lt_of_le (h.farg x hx).2 hb.size⟩
    · have := fg x hx
      exact ⟨fun e => by have := hbd _ e; omega, this.2⟩
  · intro x hx
    rcases fw with rfl | fw
    · exact ⟨(h.farw x hx).1, Nat.lt_of_lt_of_le (h.farw x hx).2 hb.size⟩
    · have := fw x hx
      exact ⟨fun e => by have := hbd _ e; omega, this.2⟩
/-- what stands while a bank and the reference's are changed: the program's bank in block b, the reference's in the box R -/
structure KeepsB (W : World) (b R : Nat) (wr : World) (gs : List GraD) (ws : List WaiD) (ga : Option Addr) (gc : Nat) (Gs : List Gra) (wa : Option Addr) (wc : Nat) (Ws : List Wai) (S : Nat → Prop) : Prop where
  low : Below W.heap.size W wr
  bank : BankR wr b S gs ws
  base : ∀ i, S i → W.heap.size ≤ i
  ref : RBk W wr S ga gc Gs wa Ws
  box : Blk wr R #[.slice ga Gs.length gc, .slice wa Ws.length wc] 30
  far : ¬ S R
  hR : W.heap.size ≤ R
  ng : ∀ x, ga = some x → x.block ≠ R
  nw : ∀ x, wa = some x → x.block ≠ R
theorem KeepsB.later {W : World} {b R : Nat} {wr wx : World} {gs : List GraD} {ws : List WaiD} {ga wa : Option Addr} {gc wc : Nat} {Gs : List Gra} {Ws : List Wai} {S : Nat → Prop} (h : KeepsB W b R wr gs ws ga gc Gs wa wc Ws S) (hb : Below wr.heap.size wr wx) : KeepsB W b R wx gs ws ga gc Gs wa wc Ws S :=
  ⟨h.low.then (Nat.le_refl _) hb, h.bank.later hb, h.base, h.ref.later hb, h.box.later hb, h.far, h.hR, h.ng, h.nw⟩
theorem KeepsB.prog {W : World} {b R : Nat} {wr wx : World} {gs gs' : List GraD} {ws ws' : List WaiD} {ga wa : Option Addr} {gc wc : Nat} {Gs : List Gra} {Ws : List Wai} {S : Nat → Prop} (h : KeepsB W b R wr gs ws ga gc Gs wa wc Ws S) (hB : BankR wx b (grow S wr wx) gs' ws') (ho : OnlyT S wr wx) : KeepsB W b R wx gs' ws' ga gc Gs wa wc Ws (grow S wr wx) := by
  refine ⟨ho.only.below h.low h.low.size h.base, hB, ?_, h.ref.prog ho h.base, ho.only.blk h.box h.far, ?_, h.hR, h.ng, h.nw⟩
  · rintro i ⟨h1 | h1, _⟩
    · exact h.base i h1
    · exact Nat.le_trans h.low.size h1
  · rintro ⟨h1 | h1, _⟩
    · exact h.far h1
    · have := h.box.lt; omega
/-- the reference's bank is another, and is stored -/
theorem KeepsB.turn {W : World} {b R : Nat} {wr w1 wx : World} {gs : List GraD} {ws : List WaiD} {ga wa ga' wa' : Option Addr} {gc wc gc' wc' : Nat} {Gs Gs' : List Gra} {Ws Ws' : List Wai} {S : Nat → Prop} (h : KeepsB W b R wr gs ws ga gc Gs wa wc Ws S) (hb : Below wr.heap.size wr w1)
    (rg : RowAt 16 encGra w1 ga' Gs') (rw : RowAt 13 encWai w1 wa' Ws') (cap : Gs'.length ≤ gc') (fg : ga' = ga ∨ ∀ x, ga' = some x → wr.heap.size ≤ x.block ∧ x.block < w1.heap.size) (fw : wa' = wa ∨ ∀ x, wa' = some x → wr.heap.size ≤ x.block ∧ x.block < w1.heap.size)
    (tg : ∀ g ∈ Gs', RGr W w1 g) (tw : ∀ g ∈ Ws', RWr W w1 g) (hx : Blk wx R #[.slice ga' Gs'.length gc', .slice wa' Ws'.length wc'] 30) (hg : w1.grownBy wx (some R)) : KeepsB W b R wx gs ws ga' gc' Gs' wa' wc' Ws' S := by
  have ho : Only (fun i => i = R) w1 wx := Only.of_grown hg (fun i e => (Option.some.inj e).symm)
  have h1 := h.later hb
  have hT : OnlyT (fun i => i = R) w1 wx := ho.mono (fun i e => ⟨e, by rw [e]; exact noTxt_blk h1.box (by decide)⟩)
  have hr := h.ref.turn hb h.bank.bd rg rw cap fg fw tg tw
  have hgR : ∀ x, ga' = some x → x.block ≠ R := fun x hx e => by
    rcases fg with rfl | fg
    · exact h.ng x hx e
    · have := (fg x hx).1; have := h.box.lt; omega
  have hwR : ∀ x, wa' = some x → x.block ≠ R := fun x hx e => by
    rcases fw with rfl | fw
    · exact h.nw x hx e
    · have := (fw x hx).1; have := h.box.lt; omega
  exact ⟨ho.below h1.low h1.low.size (fun i e => by rw [e]; exact h.hR), h1.bank.kept ho (fun i hi e => h.far (by rw [← e]; exact hi)), h.base, ⟨ho.rowAt hr.rg hgR, ho.rowAt hr.rw hwR, hr.cap, fun x hx => ⟨(hr.farg x hx).1, Nat.lt_of_lt_of_le (hr.farg x hx).2 ho.size⟩, fun x hx => ⟨(hr.farw x hx).1, Nat.lt_of_lt_of_le (hr.farw x hx).2 ho.size⟩, fun g hg => (hr.tg g hg).stays hT (fun i e => by rw [e]; exact h.hR), fun g hg => (hr.tw g hg).stays hT (fun i e => by rw [e]; exact h.hR)⟩, hx, h.far, h.hR, hgR, hwR⟩
theorem own_far {T : TypeId} {α : Type} {n : Nat} {enc : α → List Value} {w : World} {B : Nat} {a : Option Addr} {m c : Nat} {l : List α} (h : OwnG T n enc w B (.slice a m c) l) : ∀ x, a = some x → B ≤ x.block ∧ x.block < w.heap.size := fun x hx => h.lt x.block (by rw [hx]; rfl)
/-- an operation of a bank -/
structure BkOp where
  what : Int
  g : Gra
  path : ByteArray
abbrev BkOp.arr (o : BkOp) : Array Value := #[.int .i64 o.what, .bool o.g.orig.sec, .string o.g.orig.host, .int .i64 o.g.orig.port, .bool o.g.proxy, .string o.g.user, .string o.g.pass, .int .i64 o.g.ask.d.scheme, .string o.g.ask.d.realm, .string o.g.ask.d.nonce, .string o.g.ask.d.opaque_, .bool o.g.ask.d.sess, .string o.g.ask.d.qop, .bool o.g.ask.d.stale, .slice o.g.ask.addr o.g.ask.d.domain.length o.g.ask.cap, .int .i64 o.g.count, .slice o.g.addr o.g.paths.length o.g.cap, .string o.path]
def encBkOp (o : BkOp) : List Value := o.arr.toList
structure Gra.Arg (w : World) (g : Gra) : Prop where
  dom : StrAt w g.ask.addr g.ask.d.domain
  pth : StrAt w g.addr g.paths
  l1 : g.ask.d.domain.length * 16 ≤ reachBytes
  l2 : g.paths.length * 16 ≤ reachBytes
  sz : ∀ x ∈ g.paths, x.size ≤ reachBytes
  host : g.orig.host.size ≤ reachBytes
  realm : g.ask.d.realm.size ≤ reachBytes
  count : (Lit.int .i64 g.count).wf = true
theorem cellsGra : Tryd.prog.cellsOf 39 = 16 := by kernel_rfl
theorem cellsBkOp : Tryd.prog.cellsOf 41 = 18 := by kernel_rfl
theorem infoBkOp : (Tryd.prog.info? 41).map (·.size) = some 18 := by kernel_rfl
set_option maxRecDepth 100000 in
theorem gra_open {w : World} {cs : List Value} (h : Rd Tryd.prog w 39 cs) : ∃ g : Gra, cs = encGra g ∧ g.Arg w := by
  obtain ⟨hl, _⟩ := h.struct Tryd.underlying39
  rw [cellsGra] at hl
  match cs, hl with
  | [c0, c1, c2, c3, c4, c5, c6, c7, c8, c9, c10, c11, c12, c13, c14, c15], _ =>
    have r0 : Rd Tryd.prog w 32 [c0, c1, c2] := h.field Tryd.underlying39 0 rfl cellsOrigin
    have r1 : Rd Tryd.prog w 4 [c3] := h.field Tryd.underlying39 1 rfl cellsBool
    have r2 : Rd Tryd.prog w 34 [c4, c5] := h.field Tryd.underlying39 2 rfl cellsCreds2
    have r3 : Rd Tryd.prog w 37 [c6, c7, c8, c9, c10, c11, c12, c13] := h.field Tryd.underlying39 3 rfl cellsAsk
    have r4 : Rd Tryd.prog w 3 [c14] := h.field Tryd.underlying39 4 rfl cellsInt
    have r5 : Rd Tryd.prog w 35 [c15] := h.field Tryd.underlying39 5 rfl cellsStrs'
    obtain ⟨o, e0, z0, _⟩ := org_open r0
    obtain ⟨p, e1⟩ := r1.bool Tryd.underlying4
    obtain ⟨u, ps, e2, _, _⟩ := creds_open r2
    obtain ⟨ak, e3, z3⟩ := ask_open r3
    obtain ⟨n, e4, z4⟩ := r4.int Tryd.underlying3
    obtain ⟨a, len, cap, e5, _⟩ := r5.slice Tryd.underlying35 (by rw [cellsString]; decide)
    simp at e0 e1 e2 e4 e5
    have e3' : [c6, c7, c8, c9, c10, c11, c12, c13] = ak.arr.toList := e3
    simp only [List.cons.injEq, and_true] at e3'
    obtain ⟨rfl, rfl, rfl⟩ := e0
    obtain ⟨rfl, rfl⟩ := e2
    obtain ⟨rfl, rfl, rfl, rfl, rfl, rfl, rfl, rfl⟩ := e3'
    subst e1 e4 e5
    obtain ⟨ss, rfl, hp, hz, hb, _, _, _⟩ := strs_open r5
    exact ⟨⟨o, p, u, ps, ak, n, ss, a, cap⟩, rfl, ⟨z3.at_, hp, z3.len, hb, hz, z0, z3.realm, z4⟩⟩
set_option maxRecDepth 100000 in
theorem bkop_open {w : World} {cs : List Value} (h : Rd Tryd.prog w 41 cs) : ∃ o : BkOp, cs = encBkOp o ∧ o.g.Arg w ∧ o.path.size ≤ reachBytes := by
  obtain ⟨hl, _⟩ := h.struct Tryd.underlying41
  rw [cellsBkOp] at hl
  match cs, hl with
  | [c0, c1, c2, c3, c4, c5, c6, c7, c8, c9, c10, c11, c12, c13, c14, c15, c16, c17], _ =>
    have r0 : Rd Tryd.prog w 3 [c0] := h.field Tryd.underlying41 0 rfl cellsInt
    have r1 : Rd Tryd.prog w 39 [c1, c2, c3, c4, c5, c6, c7, c8, c9, c10, c11, c12, c13, c14, c15, c16] := h.field Tryd.underlying41 1 rfl cellsGra
    have r2 : Rd Tryd.prog w 9 [c17] := h.field Tryd.underlying41 2 rfl cellsString
    obtain ⟨what, e0, _⟩ := r0.int Tryd.underlying3
    obtain ⟨g, e1, hg⟩ := gra_open r1
    obtain ⟨s, e2, hs⟩ := r2.string Tryd.underlying9
    simp at e0 e2
    subst e0 e2
    refine ⟨⟨what, g, s⟩, ?_, hg, hs⟩
    have e1' : [c1, c2, c3, c4, c5, c6, c7, c8, c9, c10, c11, c12, c13, c14, c15, c16] = g.arr.toList := e1
    simp only [List.cons.injEq, and_true] at e1'
    obtain ⟨rfl, rfl, rfl, rfl, rfl, rfl, rfl, rfl, rfl, rfl, rfl, rfl, rfl, rfl, rfl, rfl⟩ := e1'
    rfl
theorem bkops_open {w : World} {a : Option Addr} {len cap : Nat} (h : Rd Tryd.prog w 22 [.slice a len cap]) :
    ∃ os : List BkOp, os.length = len ∧ RowAt 18 encBkOp w a os ∧ (∀ o ∈ os, o.g.Arg w ∧ o.path.size ≤ reachBytes) ∧ len ≤ maxLen := by
  obtain ⟨a', len', cap', e, hb, _, hl, hc, hn, hi⟩ := h.slice Tryd.underlying22 (by rw [cellsBkOp]; decide)
  simp at e
  obtain ⟨rfl, rfl, rfl⟩ := e
  rw [cellsBkOp] at hi
  obtain ⟨es, hes, hp⟩ := exists_list (fun i (o : BkOp) => (∃ b off, a = some ⟨b, off, none⟩ ∧ ∀ j u, (encBkOp o)[j]? = some u → w.cell? ⟨b, off + i * 18 + j, none⟩ = some u) ∧ o.g.Arg w ∧ o.path.size ≤ reachBytes) len (by
    intro i hil
    obtain ⟨b, off, cs', ha, hl', hR, hcell⟩ := hi i hil
    obtain ⟨e, rfl, hO⟩ := bkop_open hR
    exact ⟨e, ⟨b, off, ha, fun j u hu => by rw [hcell j (List.getElem?_eq_some_iff.1 hu).1, hu]⟩, hO⟩)
  refine ⟨es, hes, fun i hil => (hp i hil).1, ?_, Nat.le_trans hl hc⟩
  intro e hem
  obtain ⟨i, hil, rfl⟩ := List.getElem_of_mem hem
  exact (hp i hil).2
theorem gra_row {w : World} {pb k : Nat} {o : BkOp} (h : w.rangeAt pb k (encBkOp o)) : w.rangeAt pb (k + 1) (encGra o.g) := fun j v hv => by
  rw [Nat.add_assoc, Nat.add_comm 1 j]
  refine h (j + 1) v ?_
  have hj : j < (encGra o.g).length := (List.getElem?_eq_some_iff.1 hv).1
  have he : encBkOp o = Value.int .i64 o.what :: (encGra o.g ++ [.string o.path]) := rfl
  rw [he, List.getElem?_cons_succ, List.getElem?_append_left hj]
  exact hv
/-- a text of an argument's lies in an old block -/
theorem txt_arg {W : World} {a : Option Addr} {ss : List ByteArray} (h : StrAt W a ss) : TxtK W W a ss := by
  refine ⟨h, fun hn x hx => .inl ?_⟩
  obtain ⟨b, off, e, hc⟩ := h 0 (List.length_pos_iff.2 hn)
  rw [hx] at e
  cases e
  exact World.block_lt_of_cell? W _ hc
theorem rgr_arg {W : World} {g : Gra} (h : g.Arg W) (h1 : g.ask.d.domain.length ≤ 10) (h2 : g.paths.length ≤ 10) : RGr W W g := by
  have hc : -9223372036854775808 ≤ g.count ∧ g.count ≤ 9223372036854775807 := by
    have := h.count
    have e1 : IntKind.i64.min = -9223372036854775808 := by decide
    have e2 : IntKind.i64.max = 9223372036854775807 := by decide
    simp [Lit.wf] at this
    omega
  exact ⟨txt_arg h.dom, txt_arg h.pth, ⟨show g.ask.d.domain.length ≤ 100000 by omega, show g.paths.length ≤ 100000 by omega, fun x hx => by have := h.sz x hx; simpa [reachBytes] using this, hc.1, hc.2⟩⟩
end Go.Proofs.YtchgpdgigpaloaaDoor
